/- What the functions compute, printed by a program of this repo; each is shown to be what the machine of values answers. No condition. -/
import Derived.Test.YtjffolalgcmhaaaDoorProg
import Derived.KernelRfl
import Derived.Test.YtjffolalgcmhaaaDoorGFnExactQcTexta
namespace Go.Proofs.YtjffolalgcmhaaaDoorG
open Go Go.Proofs.YtjffolalgcmhaaaDoorRv Go.Proofs
set_option linter.unusedVariables false
set_option linter.unusedSimpArgs false
/-! loop.example/g00790/impl.QcText -/
def impl_QcText.b {R : Type} (ret : ByteArray → Option R) (j0 : (List T) → Bool → (List Int) → Int → Int → Int → Int → Bool → (List Int) → Bool → (List Int) → Bool → (List T) → Option R) (k : Nat) (a0_0 : Int) (a0_1 : Int) (a0_2z : Bool) (a0_2 : List Int) (a0_3z : Bool) (a0_3 : List Int) (a0_4z : Bool) (a0_4 : List T) : Option R :=
  (impl_BitsList.f k a0_3z a0_3).bind fun t0 => j0 ([] : List T) t0.1 t0.2 ((t0.2).length : Int) 0 a0_0 a0_1 a0_2z a0_2 a0_3z a0_3 a0_4z a0_4
def impl_QcText.l0b {R : Type} (ret : ByteArray → Option R) (j0 : (List T) → Bool → (List Int) → Int → Int → Int → Int → Bool → (List Int) → Bool → (List Int) → Bool → (List T) → Option R) (k : Nat) (x3 : List T) (x9z : Bool) (x9 : List Int) (x10 : Int) (x11 : Int) (c1_0 : Int) (c1_1 : Int) (c1_2z : Bool) (c1_2 : List Int) (c1_3z : Bool) (c1_3 : List Int) (c1_4z : Bool) (c1_4 : List T) : Option R :=
  cond (decide (x11 < x10)) (cond (decide ((0 : Int) ≤ x11)) (cond (decide (x11 < ((x9).length : Int))) ((impl_NumText.f k (rdI x9 x11)).bind fun t0 => cond (decide ((x3).length + 1 < 8796093022208)) (j0 (x3 ++ ([(.str t0)] : List T)) x9z x9 x10 (RowKit.wrap64 (x11 + 1)) c1_0 c1_1 c1_2z c1_2 c1_3z c1_3 c1_4z c1_4) (none)) (none)) (none)) ((impl_place.f k c1_0 c1_1).bind fun t0 => cond (decide (((⟨#[113, 99, 32]⟩ : ByteArray)).size + (t0).size ≤ 140737488355328)) (cond (decide ((((⟨#[113, 99, 32]⟩ : ByteArray) ++ t0)).size + ((⟨#[32]⟩ : ByteArray)).size ≤ 140737488355328)) ((impl_Short.f k c1_2z c1_2).bind fun t1 => cond (decide (((((⟨#[113, 99, 32]⟩ : ByteArray) ++ t0) ++ (⟨#[32]⟩ : ByteArray))).size + (t1).size ≤ 140737488355328)) (cond (decide ((((((⟨#[113, 99, 32]⟩ : ByteArray) ++ t0) ++ (⟨#[32]⟩ : ByteArray)) ++ t1)).size + ((⟨#[32]⟩ : ByteArray)).size ≤ 140737488355328)) ((impl_orDash.f k false x3).bind fun t2 => cond (decide (((((((⟨#[113, 99, 32]⟩ : ByteArray) ++ t0) ++ (⟨#[32]⟩ : ByteArray)) ++ t1) ++ (⟨#[32]⟩ : ByteArray))).size + (t2).size ≤ 140737488355328)) (ret ((((((⟨#[113, 99, 32]⟩ : ByteArray) ++ t0) ++ (⟨#[32]⟩ : ByteArray)) ++ t1) ++ (⟨#[32]⟩ : ByteArray)) ++ t2)) (none)) (none)) (none)) (none)) (none))
def impl_QcText.l0 : Nat → (List T) → Bool → (List Int) → Int → Int → Int → Int → Bool → (List Int) → Bool → (List Int) → Bool → (List T) → Option ByteArray
  | 0, _, _, _, _, _, _, _, _, _, _, _, _, _ => none
  | k + 1, x3, x9z, x9, x10, x11, c1_0, c1_1, c1_2z, c1_2, c1_3z, c1_3, c1_4z, c1_4 => impl_QcText.l0b some (impl_QcText.l0 k) k x3 x9z x9 x10 x11 c1_0 c1_1 c1_2z c1_2 c1_3z c1_3 c1_4z c1_4
def impl_QcText.f : Nat → Int → Int → Bool → (List Int) → Bool → (List Int) → Bool → (List T) → Option ByteArray
  | 0, _, _, _, _, _, _, _, _ => none
  | k + 1, a0_0, a0_1, a0_2z, a0_2, a0_3z, a0_3, a0_4z, a0_4 => impl_QcText.b some (impl_QcText.l0 k) k a0_0 a0_1 a0_2z a0_2 a0_3z a0_3 a0_4z a0_4
def impl_QcText.enc (r : ByteArray) : Res := ⟨[.vals false [((.str r), true)]], []⟩
def impl_QcText.ans (k : Nat) : List Arg → Ans
  | [.v (.agg [(.int .i64 a0_0), (.int .i64 a0_1), (.nums 5 .u8 a0_2z a0_2), (.nums 5 .u8 a0_3z a0_3), (.sl 28 a0_4z a0_4)])] => ⟨impl_QcText.f k a0_0 a0_1 a0_2z a0_2 a0_3z a0_3 a0_4z a0_4, impl_QcText.enc⟩
  | _ => Ans.no
def impl_QcText.Cs (k : Nat) : CallSem := tab [(95, impl_BitsList.ans k), (66, impl_NumText.ans k), (72, impl_place.ans k), (73, impl_Short.ans k), (84, impl_orDash.ans k)]
def impl_QcText.cuts : List (Nat × Keep) := [(58, ⟨[(1, some []), (3, none), (9, none), (10, some []), (11, some [])], [(1, [some [], some [], some [], some [], some []])]⟩)]
noncomputable def impl_QcText.K0 : List Fr := framesAt [true, true, false, true, false] (bodyOf Tryd.f54 impl_QcText.cuts) []
def impl_QcText.N0 (x3 : List T) (x9z : Bool) (x9 : List Int) (x10 : Int) (x11 : Int) (c1_0 : Int) (c1_1 : Int) (c1_2z : Bool) (c1_2 : List Int) (c1_3z : Bool) (c1_3 : List Int) (c1_4z : Bool) (c1_4 : List T) : St := stOf 36 36 1 [(1, .bp 1 0), (3, .val ⟨(.sl 9 false x3), [.l 3 0], true, some (.l 3 0)⟩), (9, .val ⟨(.nums 3 .i64 x9z x9), [.l 9 0], true, some (.l 9 0)⟩), (10, .val (V.s (.int .i64 x10))), (11, .val (V.s (.int .i64 x11)))] [(1, .cells [V.s (.int .i64 c1_0), V.s (.int .i64 c1_1), ⟨(.nums 5 .u8 c1_2z c1_2), [], false, none⟩, ⟨(.nums 5 .u8 c1_3z c1_3), [], false, none⟩, ⟨(.sl 28 c1_4z c1_4), [], false, none⟩])]
theorem impl_QcText.s (k : Nat) (a0_0 : Int) (a0_1 : Int) (a0_2z : Bool) (a0_2 : List Int) (a0_3z : Bool) (a0_3 : List Int) (a0_4z : Bool) (a0_4 : List T) : answer Tryd.prog impl_QcText.Cs 100000 impl_QcText.cuts [] Tryd.f54 (k + 1) [.v (.agg [(.int .i64 a0_0), (.int .i64 a0_1), (.nums 5 .u8 a0_2z a0_2), (.nums 5 .u8 a0_3z a0_3), (.sl 28 a0_4z a0_4)])] = impl_QcText.b (fun r => some (impl_QcText.enc r)) (fun x3 x9z x9 x10 x11 c1_0 c1_1 c1_2z c1_2 c1_3z c1_3 c1_4z c1_4 => rounds Tryd.prog impl_QcText.Cs (finish Tryd.prog [] Tryd.f54 [.v (.agg [(.int .i64 a0_0), (.int .i64 a0_1), (.nums 5 .u8 a0_2z a0_2), (.nums 5 .u8 a0_3z a0_3), (.sl 28 a0_4z a0_4)])]) 100000 k impl_QcText.K0 (impl_QcText.N0 x3 x9z x9 x10 x11 c1_0 c1_1 c1_2z c1_2 c1_3z c1_3 c1_4z c1_4)) k a0_0 a0_1 a0_2z a0_2 a0_3z a0_3 a0_4z a0_4 := by kernel_rfl
theorem impl_QcText.s0 (k : Nat) (G : List Fr → St → Option Res) (a0_0 : Int) (a0_1 : Int) (a0_2z : Bool) (a0_2 : List Int) (a0_3z : Bool) (a0_3 : List Int) (a0_4z : Bool) (a0_4 : List T) (yx3 : List T) (yx9z : Bool) (yx9 : List Int) (yx10 : Int) (yx11 : Int) (yc1_0 : Int) (yc1_1 : Int) (yc1_2z : Bool) (yc1_2 : List Int) (yc1_3z : Bool) (yc1_3 : List Int) (yc1_4z : Bool) (yc1_4 : List T) : resume Tryd.prog (impl_QcText.Cs k) G (finish Tryd.prog [] Tryd.f54 [.v (.agg [(.int .i64 a0_0), (.int .i64 a0_1), (.nums 5 .u8 a0_2z a0_2), (.nums 5 .u8 a0_3z a0_3), (.sl 28 a0_4z a0_4)])]) 100000 impl_QcText.K0 (impl_QcText.N0 yx3 yx9z yx9 yx10 yx11 yc1_0 yc1_1 yc1_2z yc1_2 yc1_3z yc1_3 yc1_4z yc1_4) = impl_QcText.l0b (fun r => some (impl_QcText.enc r)) (fun x3 x9z x9 x10 x11 c1_0 c1_1 c1_2z c1_2 c1_3z c1_3 c1_4z c1_4 => G impl_QcText.K0 (impl_QcText.N0 x3 x9z x9 x10 x11 c1_0 c1_1 c1_2z c1_2 c1_3z c1_3 c1_4z c1_4)) k yx3 yx9z yx9 yx10 yx11 yc1_0 yc1_1 yc1_2z yc1_2 yc1_3z yc1_3 yc1_4z yc1_4 := by kernel_rfl
theorem impl_QcText.b_nat {R R' : Type} (e : R → R') (ret : ByteArray → Option R) (j0 : (List T) → Bool → (List Int) → Int → Int → Int → Int → Bool → (List Int) → Bool → (List Int) → Bool → (List T) → Option R) (k : Nat) (a0_0 : Int) (a0_1 : Int) (a0_2z : Bool) (a0_2 : List Int) (a0_3z : Bool) (a0_3 : List Int) (a0_4z : Bool) (a0_4 : List T) : impl_QcText.b (fun r => (ret r).map e) (fun x3 x9z x9 x10 x11 c1_0 c1_1 c1_2z c1_2 c1_3z c1_3 c1_4z c1_4 => (j0 x3 x9z x9 x10 x11 c1_0 c1_1 c1_2z c1_2 c1_3z c1_3 c1_4z c1_4).map e) k a0_0 a0_1 a0_2z a0_2 a0_3z a0_3 a0_4z a0_4 = (impl_QcText.b ret j0 k a0_0 a0_1 a0_2z a0_2 a0_3z a0_3 a0_4z a0_4).map e := by
  unfold impl_QcText.b
  repeat' first | with_reducible refine nat_cond ?_ ?_ | with_reducible refine nat_bind fun _ => ?_ | rfl
theorem impl_QcText.l0b_nat {R R' : Type} (e : R → R') (ret : ByteArray → Option R) (j0 : (List T) → Bool → (List Int) → Int → Int → Int → Int → Bool → (List Int) → Bool → (List Int) → Bool → (List T) → Option R) (k : Nat) (x3 : List T) (x9z : Bool) (x9 : List Int) (x10 : Int) (x11 : Int) (c1_0 : Int) (c1_1 : Int) (c1_2z : Bool) (c1_2 : List Int) (c1_3z : Bool) (c1_3 : List Int) (c1_4z : Bool) (c1_4 : List T) : impl_QcText.l0b (fun r => (ret r).map e) (fun x3 x9z x9 x10 x11 c1_0 c1_1 c1_2z c1_2 c1_3z c1_3 c1_4z c1_4 => (j0 x3 x9z x9 x10 x11 c1_0 c1_1 c1_2z c1_2 c1_3z c1_3 c1_4z c1_4).map e) k x3 x9z x9 x10 x11 c1_0 c1_1 c1_2z c1_2 c1_3z c1_3 c1_4z c1_4 = (impl_QcText.l0b ret j0 k x3 x9z x9 x10 x11 c1_0 c1_1 c1_2z c1_2 c1_3z c1_3 c1_4z c1_4).map e := by
  unfold impl_QcText.l0b
  repeat' first | with_reducible refine nat_cond ?_ ?_ | with_reducible refine nat_bind fun _ => ?_ | rfl
theorem impl_QcText.rounds_eq (a0_0 : Int) (a0_1 : Int) (a0_2z : Bool) (a0_2 : List Int) (a0_3z : Bool) (a0_3 : List Int) (a0_4z : Bool) (a0_4 : List T) : ∀ k, (∀ (x3 : List T) (x9z : Bool) (x9 : List Int) (x10 : Int) (x11 : Int) (c1_0 : Int) (c1_1 : Int) (c1_2z : Bool) (c1_2 : List Int) (c1_3z : Bool) (c1_3 : List Int) (c1_4z : Bool) (c1_4 : List T), rounds Tryd.prog impl_QcText.Cs (finish Tryd.prog [] Tryd.f54 [.v (.agg [(.int .i64 a0_0), (.int .i64 a0_1), (.nums 5 .u8 a0_2z a0_2), (.nums 5 .u8 a0_3z a0_3), (.sl 28 a0_4z a0_4)])]) 100000 k impl_QcText.K0 (impl_QcText.N0 x3 x9z x9 x10 x11 c1_0 c1_1 c1_2z c1_2 c1_3z c1_3 c1_4z c1_4) = (impl_QcText.l0 k x3 x9z x9 x10 x11 c1_0 c1_1 c1_2z c1_2 c1_3z c1_3 c1_4z c1_4).map impl_QcText.enc)
  | 0 => fun _ _ _ _ _ _ _ _ _ _ _ _ _ => rfl
  | k + 1 => by
    have ih := impl_QcText.rounds_eq a0_0 a0_1 a0_2z a0_2 a0_3z a0_3 a0_4z a0_4 k
    refine fun _ _ _ _ _ _ _ _ _ _ _ _ _ => ?_
    · refine (impl_QcText.s0 k _ a0_0 a0_1 a0_2z a0_2 a0_3z a0_3 a0_4z a0_4 _ _ _ _ _ _ _ _ _ _ _ _ _).trans (Eq.trans ?_ (impl_QcText.l0b_nat impl_QcText.enc some (impl_QcText.l0 k) k _ _ _ _ _ _ _ _ _ _ _ _ _))
      simp only [ih, Option.map_some]
theorem impl_QcText.eq (k : Nat) (a0_0 : Int) (a0_1 : Int) (a0_2z : Bool) (a0_2 : List Int) (a0_3z : Bool) (a0_3 : List Int) (a0_4z : Bool) (a0_4 : List T) : answer Tryd.prog impl_QcText.Cs 100000 impl_QcText.cuts [] Tryd.f54 (k + 1) [.v (.agg [(.int .i64 a0_0), (.int .i64 a0_1), (.nums 5 .u8 a0_2z a0_2), (.nums 5 .u8 a0_3z a0_3), (.sl 28 a0_4z a0_4)])] = (impl_QcText.f (k + 1) a0_0 a0_1 a0_2z a0_2 a0_3z a0_3 a0_4z a0_4).map impl_QcText.enc := by
  have ih := impl_QcText.rounds_eq a0_0 a0_1 a0_2z a0_2 a0_3z a0_3 a0_4z a0_4 k
  refine (impl_QcText.s k a0_0 a0_1 a0_2z a0_2 a0_3z a0_3 a0_4z a0_4).trans (Eq.trans ?_ (impl_QcText.b_nat impl_QcText.enc some (impl_QcText.l0 k) k a0_0 a0_1 a0_2z a0_2 a0_3z a0_3 a0_4z a0_4))
  simp only [ih, Option.map_some]
theorem impl_QcText.sound (k : Nat) : SoundF Tryd.prog 54 (fun a => (impl_QcText.ans k a).val) := by
  refine sound_plain (fun args res h => ?_) (fun t n => rfl)
  unfold impl_QcText.ans at h
  dsimp only at h
  split at h
  · cases k with
    | zero => cases h
    | succ k =>
      unfold Ans.val at h
      rw [← impl_QcText.eq] at h
      exact answer_sound mixed Tryd.func54 _ _ _ (k + 1) (fun j _ => tab_sound (tab_cons (impl_BitsList.sound j) (tab_cons (impl_NumText.sound j) (tab_cons (impl_place.sound j) (tab_cons (impl_Short.sound j) (tab_cons (impl_orDash.sound j) (tab_nil))))))) _ _ h
  · exact (Ans.no_val h).elim

/-! loop.example/g00790/laws.eqByteS -/
def laws_eqByteS.b {R : Type} (ret : Bool → Option R) (j0 : Bool → (List Int) → Bool → (List Int) → Int → Option R) (k : Nat) (a0z : Bool) (a0 : List Int) (a1z : Bool) (a1 : List Int) : Option R :=
  cond (!(decide (((a0).length : Int) = ((a1).length : Int)))) (ret false) (j0 a0z a0 a1z a1 0)
def laws_eqByteS.l0b {R : Type} (ret : Bool → Option R) (j0 : Bool → (List Int) → Bool → (List Int) → Int → Option R) (k : Nat) (x0z : Bool) (x0 : List Int) (x1z : Bool) (x1 : List Int) (x5 : Int) : Option R :=
  cond (decide (x5 < ((x0).length : Int))) (cond (decide ((0 : Int) ≤ x5)) (cond (decide (x5 < ((x0).length : Int))) (cond (decide ((0 : Int) ≤ x5)) (cond (decide (x5 < ((x1).length : Int))) (cond (!(decide ((rdI x0 x5) = (rdI x1 x5)))) (ret false) (j0 x0z x0 x1z x1 (RowKit.wrap64 (x5 + 1)))) (none)) (none)) (none)) (none)) (ret true)
def laws_eqByteS.l0 : Nat → Bool → (List Int) → Bool → (List Int) → Int → Option Bool
  | 0, _, _, _, _, _ => none
  | k + 1, x0z, x0, x1z, x1, x5 => laws_eqByteS.l0b some (laws_eqByteS.l0 k) k x0z x0 x1z x1 x5
def laws_eqByteS.f : Nat → Bool → (List Int) → Bool → (List Int) → Option Bool
  | 0, _, _, _, _ => none
  | k + 1, a0z, a0, a1z, a1 => laws_eqByteS.b some (laws_eqByteS.l0 k) k a0z a0 a1z a1
def laws_eqByteS.enc (r : Bool) : Res := ⟨[.vals false [((.bool r), true)]], []⟩
def laws_eqByteS.ans (k : Nat) : List Arg → Ans
  | [.v (.nums 5 .u8 a0z a0), .v (.nums 5 .u8 a1z a1)] => ⟨laws_eqByteS.f k a0z a0 a1z a1, laws_eqByteS.enc⟩
  | _ => Ans.no
def laws_eqByteS.Cs (k : Nat) : CallSem := tab []
def laws_eqByteS.cuts : List (Nat × Keep) := [(58, ⟨[(0, some []), (1, some []), (5, some [])], []⟩)]
noncomputable def laws_eqByteS.K0 : List Fr := framesAt [true, true, false, true, false] (bodyOf Tryd.f74 laws_eqByteS.cuts) []
def laws_eqByteS.N0 (x0z : Bool) (x0 : List Int) (x1z : Bool) (x1 : List Int) (x5 : Int) : St := stOf 26 26 2 [(0, .val ⟨(.nums 5 .u8 x0z x0), [], false, none⟩), (1, .val ⟨(.nums 5 .u8 x1z x1), [], false, none⟩), (5, .val (V.s (.int .i64 x5)))] []
theorem laws_eqByteS.s (k : Nat) (a0z : Bool) (a0 : List Int) (a1z : Bool) (a1 : List Int) : answer Tryd.prog laws_eqByteS.Cs 100000 laws_eqByteS.cuts [] Tryd.f74 (k + 1) [.v (.nums 5 .u8 a0z a0), .v (.nums 5 .u8 a1z a1)] = laws_eqByteS.b (fun r => some (laws_eqByteS.enc r)) (fun x0z x0 x1z x1 x5 => rounds Tryd.prog laws_eqByteS.Cs (finish Tryd.prog [] Tryd.f74 [.v (.nums 5 .u8 a0z a0), .v (.nums 5 .u8 a1z a1)]) 100000 k laws_eqByteS.K0 (laws_eqByteS.N0 x0z x0 x1z x1 x5)) k a0z a0 a1z a1 := by kernel_rfl
theorem laws_eqByteS.s0 (k : Nat) (G : List Fr → St → Option Res) (a0z : Bool) (a0 : List Int) (a1z : Bool) (a1 : List Int) (yx0z : Bool) (yx0 : List Int) (yx1z : Bool) (yx1 : List Int) (yx5 : Int) : resume Tryd.prog (laws_eqByteS.Cs k) G (finish Tryd.prog [] Tryd.f74 [.v (.nums 5 .u8 a0z a0), .v (.nums 5 .u8 a1z a1)]) 100000 laws_eqByteS.K0 (laws_eqByteS.N0 yx0z yx0 yx1z yx1 yx5) = laws_eqByteS.l0b (fun r => some (laws_eqByteS.enc r)) (fun x0z x0 x1z x1 x5 => G laws_eqByteS.K0 (laws_eqByteS.N0 x0z x0 x1z x1 x5)) k yx0z yx0 yx1z yx1 yx5 := by kernel_rfl
theorem laws_eqByteS.b_nat {R R' : Type} (e : R → R') (ret : Bool → Option R) (j0 : Bool → (List Int) → Bool → (List Int) → Int → Option R) (k : Nat) (a0z : Bool) (a0 : List Int) (a1z : Bool) (a1 : List Int) : laws_eqByteS.b (fun r => (ret r).map e) (fun x0z x0 x1z x1 x5 => (j0 x0z x0 x1z x1 x5).map e) k a0z a0 a1z a1 = (laws_eqByteS.b ret j0 k a0z a0 a1z a1).map e := by
  unfold laws_eqByteS.b
  repeat' first | with_reducible refine nat_cond ?_ ?_ | with_reducible refine nat_bind fun _ => ?_ | rfl
theorem laws_eqByteS.l0b_nat {R R' : Type} (e : R → R') (ret : Bool → Option R) (j0 : Bool → (List Int) → Bool → (List Int) → Int → Option R) (k : Nat) (x0z : Bool) (x0 : List Int) (x1z : Bool) (x1 : List Int) (x5 : Int) : laws_eqByteS.l0b (fun r => (ret r).map e) (fun x0z x0 x1z x1 x5 => (j0 x0z x0 x1z x1 x5).map e) k x0z x0 x1z x1 x5 = (laws_eqByteS.l0b ret j0 k x0z x0 x1z x1 x5).map e := by
  unfold laws_eqByteS.l0b
  repeat' first | with_reducible refine nat_cond ?_ ?_ | with_reducible refine nat_bind fun _ => ?_ | rfl
theorem laws_eqByteS.rounds_eq (a0z : Bool) (a0 : List Int) (a1z : Bool) (a1 : List Int) : ∀ k, (∀ (x0z : Bool) (x0 : List Int) (x1z : Bool) (x1 : List Int) (x5 : Int), rounds Tryd.prog laws_eqByteS.Cs (finish Tryd.prog [] Tryd.f74 [.v (.nums 5 .u8 a0z a0), .v (.nums 5 .u8 a1z a1)]) 100000 k laws_eqByteS.K0 (laws_eqByteS.N0 x0z x0 x1z x1 x5) = (laws_eqByteS.l0 k x0z x0 x1z x1 x5).map laws_eqByteS.enc)
  | 0 => fun _ _ _ _ _ => rfl
  | k + 1 => by
    have ih := laws_eqByteS.rounds_eq a0z a0 a1z a1 k
    refine fun _ _ _ _ _ => ?_
    · refine (laws_eqByteS.s0 k _ a0z a0 a1z a1 _ _ _ _ _).trans (Eq.trans ?_ (laws_eqByteS.l0b_nat laws_eqByteS.enc some (laws_eqByteS.l0 k) k _ _ _ _ _))
      simp only [ih, Option.map_some]
theorem laws_eqByteS.eq (k : Nat) (a0z : Bool) (a0 : List Int) (a1z : Bool) (a1 : List Int) : answer Tryd.prog laws_eqByteS.Cs 100000 laws_eqByteS.cuts [] Tryd.f74 (k + 1) [.v (.nums 5 .u8 a0z a0), .v (.nums 5 .u8 a1z a1)] = (laws_eqByteS.f (k + 1) a0z a0 a1z a1).map laws_eqByteS.enc := by
  have ih := laws_eqByteS.rounds_eq a0z a0 a1z a1 k
  refine (laws_eqByteS.s k a0z a0 a1z a1).trans (Eq.trans ?_ (laws_eqByteS.b_nat laws_eqByteS.enc some (laws_eqByteS.l0 k) k a0z a0 a1z a1))
  simp only [ih, Option.map_some]
theorem laws_eqByteS.sound (k : Nat) : SoundF Tryd.prog 74 (fun a => (laws_eqByteS.ans k a).val) := by
  refine sound_plain (fun args res h => ?_) (fun t n => rfl)
  unfold laws_eqByteS.ans at h
  dsimp only at h
  split at h
  · cases k with
    | zero => cases h
    | succ k =>
      unfold Ans.val at h
      rw [← laws_eqByteS.eq] at h
      exact answer_sound mixed Tryd.func74 _ _ _ (k + 1) (fun j _ => tab_sound (tab_nil)) _ _ h
  · exact (Ans.no_val h).elim

/-! loop.example/g00790/laws.eqByteSS -/
def laws_eqByteSS.b {R : Type} (ret : Bool → Option R) (j0 : Bool → (List T) → Bool → (List T) → Int → Option R) (k : Nat) (a0z : Bool) (a0 : List T) (a1z : Bool) (a1 : List T) : Option R :=
  cond (!(decide (((a0).length : Int) = ((a1).length : Int)))) (ret false) (j0 a0z a0 a1z a1 0)
def laws_eqByteSS.l0b {R : Type} (ret : Bool → Option R) (j0 : Bool → (List T) → Bool → (List T) → Int → Option R) (k : Nat) (x0z : Bool) (x0 : List T) (x1z : Bool) (x1 : List T) (x5 : Int) : Option R :=
  cond (decide (x5 < ((x0).length : Int))) (cond (decide ((0 : Int) ≤ x5)) (cond (decide (x5 < ((x0).length : Int))) (cond (decide ((0 : Int) ≤ x5)) (cond (decide (x5 < ((x1).length : Int))) ((laws_eqByteS.f k (((((x0).getD (x5).toNat .bad).cells.getD 0 .bad)).isNil) (((((x0).getD (x5).toNat .bad).cells.getD 0 .bad)).toNums) (((((x1).getD (x5).toNat .bad).cells.getD 0 .bad)).isNil) (((((x1).getD (x5).toNat .bad).cells.getD 0 .bad)).toNums)).bind fun t0 => cond (!t0) (ret false) (j0 x0z x0 x1z x1 (RowKit.wrap64 (x5 + 1)))) (none)) (none)) (none)) (none)) (ret true)
def laws_eqByteSS.l0 : Nat → Bool → (List T) → Bool → (List T) → Int → Option Bool
  | 0, _, _, _, _, _ => none
  | k + 1, x0z, x0, x1z, x1, x5 => laws_eqByteSS.l0b some (laws_eqByteSS.l0 k) k x0z x0 x1z x1 x5
def laws_eqByteSS.f : Nat → Bool → (List T) → Bool → (List T) → Option Bool
  | 0, _, _, _, _ => none
  | k + 1, a0z, a0, a1z, a1 => laws_eqByteSS.b some (laws_eqByteSS.l0 k) k a0z a0 a1z a1
def laws_eqByteSS.enc (r : Bool) : Res := ⟨[.vals false [((.bool r), true)]], []⟩
def laws_eqByteSS.ans (k : Nat) : List Arg → Ans
  | [.v (.sl 28 a0z a0), .v (.sl 28 a1z a1)] => ⟨laws_eqByteSS.f k a0z a0 a1z a1, laws_eqByteSS.enc⟩
  | _ => Ans.no
def laws_eqByteSS.Cs (k : Nat) : CallSem := tab [(74, laws_eqByteS.ans k)]
def laws_eqByteSS.cuts : List (Nat × Keep) := [(58, ⟨[(0, some []), (1, some []), (5, some [])], []⟩)]
noncomputable def laws_eqByteSS.K0 : List Fr := framesAt [true, true, false, true, false] (bodyOf Tryd.f80 laws_eqByteSS.cuts) []
def laws_eqByteSS.N0 (x0z : Bool) (x0 : List T) (x1z : Bool) (x1 : List T) (x5 : Int) : St := stOf 27 27 2 [(0, .val ⟨(.sl 28 x0z x0), [], false, none⟩), (1, .val ⟨(.sl 28 x1z x1), [], false, none⟩), (5, .val (V.s (.int .i64 x5)))] []
theorem laws_eqByteSS.s (k : Nat) (a0z : Bool) (a0 : List T) (a1z : Bool) (a1 : List T) : answer Tryd.prog laws_eqByteSS.Cs 100000 laws_eqByteSS.cuts [] Tryd.f80 (k + 1) [.v (.sl 28 a0z a0), .v (.sl 28 a1z a1)] = laws_eqByteSS.b (fun r => some (laws_eqByteSS.enc r)) (fun x0z x0 x1z x1 x5 => rounds Tryd.prog laws_eqByteSS.Cs (finish Tryd.prog [] Tryd.f80 [.v (.sl 28 a0z a0), .v (.sl 28 a1z a1)]) 100000 k laws_eqByteSS.K0 (laws_eqByteSS.N0 x0z x0 x1z x1 x5)) k a0z a0 a1z a1 := by kernel_rfl
theorem laws_eqByteSS.s0 (k : Nat) (G : List Fr → St → Option Res) (a0z : Bool) (a0 : List T) (a1z : Bool) (a1 : List T) (yx0z : Bool) (yx0 : List T) (yx1z : Bool) (yx1 : List T) (yx5 : Int) : resume Tryd.prog (laws_eqByteSS.Cs k) G (finish Tryd.prog [] Tryd.f80 [.v (.sl 28 a0z a0), .v (.sl 28 a1z a1)]) 100000 laws_eqByteSS.K0 (laws_eqByteSS.N0 yx0z yx0 yx1z yx1 yx5) = laws_eqByteSS.l0b (fun r => some (laws_eqByteSS.enc r)) (fun x0z x0 x1z x1 x5 => G laws_eqByteSS.K0 (laws_eqByteSS.N0 x0z x0 x1z x1 x5)) k yx0z yx0 yx1z yx1 yx5 := by kernel_rfl
theorem laws_eqByteSS.b_nat {R R' : Type} (e : R → R') (ret : Bool → Option R) (j0 : Bool → (List T) → Bool → (List T) → Int → Option R) (k : Nat) (a0z : Bool) (a0 : List T) (a1z : Bool) (a1 : List T) : laws_eqByteSS.b (fun r => (ret r).map e) (fun x0z x0 x1z x1 x5 => (j0 x0z x0 x1z x1 x5).map e) k a0z a0 a1z a1 = (laws_eqByteSS.b ret j0 k a0z a0 a1z a1).map e := by
  unfold laws_eqByteSS.b
  repeat' first | with_reducible refine nat_cond ?_ ?_ | with_reducible refine nat_bind fun _ => ?_ | rfl
theorem laws_eqByteSS.l0b_nat {R R' : Type} (e : R → R') (ret : Bool → Option R) (j0 : Bool → (List T) → Bool → (List T) → Int → Option R) (k : Nat) (x0z : Bool) (x0 : List T) (x1z : Bool) (x1 : List T) (x5 : Int) : laws_eqByteSS.l0b (fun r => (ret r).map e) (fun x0z x0 x1z x1 x5 => (j0 x0z x0 x1z x1 x5).map e) k x0z x0 x1z x1 x5 = (laws_eqByteSS.l0b ret j0 k x0z x0 x1z x1 x5).map e := by
  unfold laws_eqByteSS.l0b
  repeat' first | with_reducible refine nat_cond ?_ ?_ | with_reducible refine nat_bind fun _ => ?_ | rfl
theorem laws_eqByteSS.rounds_eq (a0z : Bool) (a0 : List T) (a1z : Bool) (a1 : List T) : ∀ k, (∀ (x0z : Bool) (x0 : List T) (x1z : Bool) (x1 : List T) (x5 : Int), rounds Tryd.prog laws_eqByteSS.Cs (finish Tryd.prog [] Tryd.f80 [.v (.sl 28 a0z a0), .v (.sl 28 a1z a1)]) 100000 k laws_eqByteSS.K0 (laws_eqByteSS.N0 x0z x0 x1z x1 x5) = (laws_eqByteSS.l0 k x0z x0 x1z x1 x5).map laws_eqByteSS.enc)
  | 0 => fun _ _ _ _ _ => rfl
  | k + 1 => by
    have ih := laws_eqByteSS.rounds_eq a0z a0 a1z a1 k
    refine fun _ _ _ _ _ => ?_
    · refine (laws_eqByteSS.s0 k _ a0z a0 a1z a1 _ _ _ _ _).trans (Eq.trans ?_ (laws_eqByteSS.l0b_nat laws_eqByteSS.enc some (laws_eqByteSS.l0 k) k _ _ _ _ _))
      simp only [ih, Option.map_some]
theorem laws_eqByteSS.eq (k : Nat) (a0z : Bool) (a0 : List T) (a1z : Bool) (a1 : List T) : answer Tryd.prog laws_eqByteSS.Cs 100000 laws_eqByteSS.cuts [] Tryd.f80 (k + 1) [.v (.sl 28 a0z a0), .v (.sl 28 a1z a1)] = (laws_eqByteSS.f (k + 1) a0z a0 a1z a1).map laws_eqByteSS.enc := by
  have ih := laws_eqByteSS.rounds_eq a0z a0 a1z a1 k
  refine (laws_eqByteSS.s k a0z a0 a1z a1).trans (Eq.trans ?_ (laws_eqByteSS.b_nat laws_eqByteSS.enc some (laws_eqByteSS.l0 k) k a0z a0 a1z a1))
  simp only [ih, Option.map_some]
theorem laws_eqByteSS.sound (k : Nat) : SoundF Tryd.prog 80 (fun a => (laws_eqByteSS.ans k a).val) := by
  refine sound_plain (fun args res h => ?_) (fun t n => rfl)
  unfold laws_eqByteSS.ans at h
  dsimp only at h
  split at h
  · cases k with
    | zero => cases h
    | succ k =>
      unfold Ans.val at h
      rw [← laws_eqByteSS.eq] at h
      exact answer_sound mixed Tryd.func80 _ _ _ (k + 1) (fun j _ => tab_sound (tab_cons (laws_eqByteS.sound j) (tab_nil))) _ _ h
  · exact (Ans.no_val h).elim

/-! loop.example/g00790/laws.eqQc -/
def laws_eqQc.b {R : Type} (ret : Bool → Option R) (k : Nat) (a0_0 : Int) (a0_1 : Int) (a0_2z : Bool) (a0_2 : List Int) (a0_3z : Bool) (a0_3 : List Int) (a0_4z : Bool) (a0_4 : List T) (a1_0 : Int) (a1_1 : Int) (a1_2z : Bool) (a1_2 : List Int) (a1_3z : Bool) (a1_3 : List Int) (a1_4z : Bool) (a1_4 : List T) : Option R :=
  cond (!(decide (a0_0 = a1_0))) (ret false) (cond (!(decide (a0_1 = a1_1))) (ret false) ((laws_eqByteS.f k a0_2z a0_2 a1_2z a1_2).bind fun t0 => cond (!t0) (ret false) ((laws_eqByteS.f k a0_3z a0_3 a1_3z a1_3).bind fun t1 => cond (!t1) (ret false) ((laws_eqByteSS.f k a0_4z a0_4 a1_4z a1_4).bind fun t2 => cond (!t2) (ret false) (ret true)))))
def laws_eqQc.f : Nat → Int → Int → Bool → (List Int) → Bool → (List Int) → Bool → (List T) → Int → Int → Bool → (List Int) → Bool → (List Int) → Bool → (List T) → Option Bool
  | 0, _, _, _, _, _, _, _, _, _, _, _, _, _, _, _, _ => none
  | k + 1, a0_0, a0_1, a0_2z, a0_2, a0_3z, a0_3, a0_4z, a0_4, a1_0, a1_1, a1_2z, a1_2, a1_3z, a1_3, a1_4z, a1_4 => laws_eqQc.b some k a0_0 a0_1 a0_2z a0_2 a0_3z a0_3 a0_4z a0_4 a1_0 a1_1 a1_2z a1_2 a1_3z a1_3 a1_4z a1_4
def laws_eqQc.enc (r : Bool) : Res := ⟨[.vals false [((.bool r), true)]], []⟩
def laws_eqQc.ans (k : Nat) : List Arg → Ans
  | [.v (.agg [(.int .i64 a0_0), (.int .i64 a0_1), (.nums 5 .u8 a0_2z a0_2), (.nums 5 .u8 a0_3z a0_3), (.sl 28 a0_4z a0_4)]), .v (.agg [(.int .i64 a1_0), (.int .i64 a1_1), (.nums 5 .u8 a1_2z a1_2), (.nums 5 .u8 a1_3z a1_3), (.sl 28 a1_4z a1_4)])] => ⟨laws_eqQc.f k a0_0 a0_1 a0_2z a0_2 a0_3z a0_3 a0_4z a0_4 a1_0 a1_1 a1_2z a1_2 a1_3z a1_3 a1_4z a1_4, laws_eqQc.enc⟩
  | _ => Ans.no
def laws_eqQc.Cs (k : Nat) : CallSem := tab [(74, laws_eqByteS.ans k), (80, laws_eqByteSS.ans k)]
def laws_eqQc.cuts : List (Nat × Keep) := []
theorem laws_eqQc.s (k : Nat) (a0_0 : Int) (a0_1 : Int) (a0_2z : Bool) (a0_2 : List Int) (a0_3z : Bool) (a0_3 : List Int) (a0_4z : Bool) (a0_4 : List T) (a1_0 : Int) (a1_1 : Int) (a1_2z : Bool) (a1_2 : List Int) (a1_3z : Bool) (a1_3 : List Int) (a1_4z : Bool) (a1_4 : List T) : answer Tryd.prog laws_eqQc.Cs 100000 laws_eqQc.cuts [] Tryd.f55 (k + 1) [.v (.agg [(.int .i64 a0_0), (.int .i64 a0_1), (.nums 5 .u8 a0_2z a0_2), (.nums 5 .u8 a0_3z a0_3), (.sl 28 a0_4z a0_4)]), .v (.agg [(.int .i64 a1_0), (.int .i64 a1_1), (.nums 5 .u8 a1_2z a1_2), (.nums 5 .u8 a1_3z a1_3), (.sl 28 a1_4z a1_4)])] = laws_eqQc.b (fun r => some (laws_eqQc.enc r)) k a0_0 a0_1 a0_2z a0_2 a0_3z a0_3 a0_4z a0_4 a1_0 a1_1 a1_2z a1_2 a1_3z a1_3 a1_4z a1_4 := by kernel_rfl
theorem laws_eqQc.b_nat {R R' : Type} (e : R → R') (ret : Bool → Option R) (k : Nat) (a0_0 : Int) (a0_1 : Int) (a0_2z : Bool) (a0_2 : List Int) (a0_3z : Bool) (a0_3 : List Int) (a0_4z : Bool) (a0_4 : List T) (a1_0 : Int) (a1_1 : Int) (a1_2z : Bool) (a1_2 : List Int) (a1_3z : Bool) (a1_3 : List Int) (a1_4z : Bool) (a1_4 : List T) : laws_eqQc.b (fun r => (ret r).map e) k a0_0 a0_1 a0_2z a0_2 a0_3z a0_3 a0_4z a0_4 a1_0 a1_1 a1_2z a1_2 a1_3z a1_3 a1_4z a1_4 = (laws_eqQc.b ret k a0_0 a0_1 a0_2z a0_2 a0_3z a0_3 a0_4z a0_4 a1_0 a1_1 a1_2z a1_2 a1_3z a1_3 a1_4z a1_4).map e := by
  unfold laws_eqQc.b
  repeat' first | with_reducible refine nat_cond ?_ ?_ | with_reducible refine nat_bind fun _ => ?_ | rfl
theorem laws_eqQc.eq (k : Nat) (a0_0 : Int) (a0_1 : Int) (a0_2z : Bool) (a0_2 : List Int) (a0_3z : Bool) (a0_3 : List Int) (a0_4z : Bool) (a0_4 : List T) (a1_0 : Int) (a1_1 : Int) (a1_2z : Bool) (a1_2 : List Int) (a1_3z : Bool) (a1_3 : List Int) (a1_4z : Bool) (a1_4 : List T) : answer Tryd.prog laws_eqQc.Cs 100000 laws_eqQc.cuts [] Tryd.f55 (k + 1) [.v (.agg [(.int .i64 a0_0), (.int .i64 a0_1), (.nums 5 .u8 a0_2z a0_2), (.nums 5 .u8 a0_3z a0_3), (.sl 28 a0_4z a0_4)]), .v (.agg [(.int .i64 a1_0), (.int .i64 a1_1), (.nums 5 .u8 a1_2z a1_2), (.nums 5 .u8 a1_3z a1_3), (.sl 28 a1_4z a1_4)])] = (laws_eqQc.f (k + 1) a0_0 a0_1 a0_2z a0_2 a0_3z a0_3 a0_4z a0_4 a1_0 a1_1 a1_2z a1_2 a1_3z a1_3 a1_4z a1_4).map laws_eqQc.enc := by
  refine (laws_eqQc.s k a0_0 a0_1 a0_2z a0_2 a0_3z a0_3 a0_4z a0_4 a1_0 a1_1 a1_2z a1_2 a1_3z a1_3 a1_4z a1_4).trans (Eq.trans ?_ (laws_eqQc.b_nat laws_eqQc.enc some k a0_0 a0_1 a0_2z a0_2 a0_3z a0_3 a0_4z a0_4 a1_0 a1_1 a1_2z a1_2 a1_3z a1_3 a1_4z a1_4))
  simp only [Option.map_some]
theorem laws_eqQc.sound (k : Nat) : SoundF Tryd.prog 55 (fun a => (laws_eqQc.ans k a).val) := by
  refine sound_plain (fun args res h => ?_) (fun t n => rfl)
  unfold laws_eqQc.ans at h
  dsimp only at h
  split at h
  · cases k with
    | zero => cases h
    | succ k =>
      unfold Ans.val at h
      rw [← laws_eqQc.eq] at h
      exact answer_sound mixed Tryd.func55 _ _ _ (k + 1) (fun j _ => tab_sound (tab_cons (laws_eqByteS.sound j) (tab_cons (laws_eqByteSS.sound j) (tab_nil)))) _ _ h
  · exact (Ans.no_val h).elim

/-! loop.example/g00790/laws.FnExactQcText -/
def laws_FnExactQcText.b {R : Type} (ret : Bool → Option R) (k : Nat) (a0_0 : Int) (a0_1 : Int) (a0_2z : Bool) (a0_2 : List Int) (a0_3z : Bool) (a0_3 : List Int) (a0_4z : Bool) (a0_4 : List T) : Option R :=
  (laws_szQc.f k a0_0 a0_1 a0_2z a0_2 a0_3z a0_3 a0_4z a0_4 1048576).bind fun t0 => cond (decide (t0 < 0)) (ret true) ((laws_toQc.f k a0_0 a0_1 a0_2z a0_2 a0_3z a0_3 a0_4z a0_4).bind fun t1 => (spec_QcText.f k t1.1 t1.2.1 t1.2.2.1 t1.2.2.2.1 t1.2.2.2.2.1 t1.2.2.2.2.2.1 t1.2.2.2.2.2.2.1 t1.2.2.2.2.2.2.2).bind fun t2 => (laws_toQc.f k a0_0 a0_1 a0_2z a0_2 a0_3z a0_3 a0_4z a0_4).bind fun t3 => (impl_QcText.f k t3.1 t3.2.1 t3.2.2.1 t3.2.2.2.1 t3.2.2.2.2.1 t3.2.2.2.2.2.1 t3.2.2.2.2.2.2.1 t3.2.2.2.2.2.2.2).bind fun t4 => cond (!decide (t4 = t2)) (ret false) ((laws_toQc.f k a0_0 a0_1 a0_2z a0_2 a0_3z a0_3 a0_4z a0_4).bind fun t5 => (laws_eqQc.f k t3.1 t3.2.1 t3.2.2.1 t3.2.2.2.1 t3.2.2.2.2.1 t3.2.2.2.2.2.1 t3.2.2.2.2.2.2.1 t3.2.2.2.2.2.2.2 t5.1 t5.2.1 t5.2.2.1 t5.2.2.2.1 t5.2.2.2.2.1 t5.2.2.2.2.2.1 t5.2.2.2.2.2.2.1 t5.2.2.2.2.2.2.2).bind fun t6 => cond (!t6) (ret false) (ret true)))
def laws_FnExactQcText.f : Nat → Int → Int → Bool → (List Int) → Bool → (List Int) → Bool → (List T) → Option Bool
  | 0, _, _, _, _, _, _, _, _ => none
  | k + 1, a0_0, a0_1, a0_2z, a0_2, a0_3z, a0_3, a0_4z, a0_4 => laws_FnExactQcText.b some k a0_0 a0_1 a0_2z a0_2 a0_3z a0_3 a0_4z a0_4
def laws_FnExactQcText.enc (r : Bool) : Res := ⟨[.vals false [((.bool r), true)]], []⟩
def laws_FnExactQcText.ans (k : Nat) : List Arg → Ans
  | [.v (.agg [(.int .i64 a0_0), (.int .i64 a0_1), (.nums 5 .u8 a0_2z a0_2), (.nums 5 .u8 a0_3z a0_3), (.sl 28 a0_4z a0_4)])] => ⟨laws_FnExactQcText.f k a0_0 a0_1 a0_2z a0_2 a0_3z a0_3 a0_4z a0_4, laws_FnExactQcText.enc⟩
  | _ => Ans.no
def laws_FnExactQcText.Cs (k : Nat) : CallSem := tab [(51, laws_szQc.ans k), (53, laws_toQc.ans k), (52, spec_QcText.ans k), (54, impl_QcText.ans k), (55, laws_eqQc.ans k)]
def laws_FnExactQcText.cuts : List (Nat × Keep) := []
theorem laws_FnExactQcText.s (k : Nat) (a0_0 : Int) (a0_1 : Int) (a0_2z : Bool) (a0_2 : List Int) (a0_3z : Bool) (a0_3 : List Int) (a0_4z : Bool) (a0_4 : List T) : answer Tryd.prog laws_FnExactQcText.Cs 100000 laws_FnExactQcText.cuts [] Tryd.f11 (k + 1) [.v (.agg [(.int .i64 a0_0), (.int .i64 a0_1), (.nums 5 .u8 a0_2z a0_2), (.nums 5 .u8 a0_3z a0_3), (.sl 28 a0_4z a0_4)])] = laws_FnExactQcText.b (fun r => some (laws_FnExactQcText.enc r)) k a0_0 a0_1 a0_2z a0_2 a0_3z a0_3 a0_4z a0_4 := by kernel_rfl
theorem laws_FnExactQcText.b_nat {R R' : Type} (e : R → R') (ret : Bool → Option R) (k : Nat) (a0_0 : Int) (a0_1 : Int) (a0_2z : Bool) (a0_2 : List Int) (a0_3z : Bool) (a0_3 : List Int) (a0_4z : Bool) (a0_4 : List T) : laws_FnExactQcText.b (fun r => (ret r).map e) k a0_0 a0_1 a0_2z a0_2 a0_3z a0_3 a0_4z a0_4 = (laws_FnExactQcText.b ret k a0_0 a0_1 a0_2z a0_2 a0_3z a0_3 a0_4z a0_4).map e := by
  unfold laws_FnExactQcText.b
  repeat' first | with_reducible refine nat_cond ?_ ?_ | with_reducible refine nat_bind fun _ => ?_ | rfl
theorem laws_FnExactQcText.eq (k : Nat) (a0_0 : Int) (a0_1 : Int) (a0_2z : Bool) (a0_2 : List Int) (a0_3z : Bool) (a0_3 : List Int) (a0_4z : Bool) (a0_4 : List T) : answer Tryd.prog laws_FnExactQcText.Cs 100000 laws_FnExactQcText.cuts [] Tryd.f11 (k + 1) [.v (.agg [(.int .i64 a0_0), (.int .i64 a0_1), (.nums 5 .u8 a0_2z a0_2), (.nums 5 .u8 a0_3z a0_3), (.sl 28 a0_4z a0_4)])] = (laws_FnExactQcText.f (k + 1) a0_0 a0_1 a0_2z a0_2 a0_3z a0_3 a0_4z a0_4).map laws_FnExactQcText.enc := by
  refine (laws_FnExactQcText.s k a0_0 a0_1 a0_2z a0_2 a0_3z a0_3 a0_4z a0_4).trans (Eq.trans ?_ (laws_FnExactQcText.b_nat laws_FnExactQcText.enc some k a0_0 a0_1 a0_2z a0_2 a0_3z a0_3 a0_4z a0_4))
  simp only [Option.map_some]
theorem laws_FnExactQcText.sound (k : Nat) : SoundF Tryd.prog 11 (fun a => (laws_FnExactQcText.ans k a).val) := by
  refine sound_plain (fun args res h => ?_) (fun t n => rfl)
  unfold laws_FnExactQcText.ans at h
  dsimp only at h
  split at h
  · cases k with
    | zero => cases h
    | succ k =>
      unfold Ans.val at h
      rw [← laws_FnExactQcText.eq] at h
      exact answer_sound mixed Tryd.func11 _ _ _ (k + 1) (fun j _ => tab_sound (tab_cons (laws_szQc.sound j) (tab_cons (laws_toQc.sound j) (tab_cons (spec_QcText.sound j) (tab_cons (impl_QcText.sound j) (tab_cons (laws_eqQc.sound j) (tab_nil))))))) _ _ h
  · exact (Ans.no_val h).elim
end Go.Proofs.YtjffolalgcmhaaaDoorG
