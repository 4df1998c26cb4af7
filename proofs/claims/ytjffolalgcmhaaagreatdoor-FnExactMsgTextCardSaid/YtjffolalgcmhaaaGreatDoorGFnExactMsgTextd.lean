/- What the functions compute, printed by a program of this repo; each is shown to be what the machine of values answers. No condition. -/
import Derived.Test.YtjffolalgcmhaaaGreatDoorProg
import Derived.KernelRfl
import Derived.Test.YtjffolalgcmhaaaGreatDoorGFnExactMsgTextc
namespace Go.Proofs.YtjffolalgcmhaaaGreatDoorG
open Go Go.Proofs.YtjffolalgcmhaaaGreatDoorRv Go.Proofs
set_option linter.unusedVariables false
set_option linter.unusedSimpArgs false
/-! loop.example/g00790/impl.TcText -/
def impl_TcText.b {R : Type} (ret : ByteArray → Option R) (j0 : (List T) → Bool → (List T) → Int → Int → Int → Bool → (List T) → Option R) (k : Nat) (a0_0 : Int) (a0_1z : Bool) (a0_1 : List T) : Option R :=
  j0 ([] : List T) a0_1z a0_1 ((a0_1).length : Int) 0 a0_0 a0_1z a0_1
def impl_TcText.l0b {R : Type} (ret : ByteArray → Option R) (j0 : (List T) → Bool → (List T) → Int → Int → Int → Bool → (List T) → Option R) (k : Nat) (x3 : List T) (x8z : Bool) (x8 : List T) (x9 : Int) (x10 : Int) (c1_0 : Int) (c1_1z : Bool) (c1_1 : List T) : Option R :=
  cond (decide (x10 < x9)) (cond (decide ((0 : Int) ≤ x10)) (cond (decide (x10 < ((x8).length : Int))) ((impl_NumText.f k (((((x8).getD (x10).toNat .bad).cells.getD 0 .bad)).toInt)).bind fun t0 => cond (decide ((t0).size + ((⟨#[58]⟩ : ByteArray)).size ≤ 140737488355328)) ((impl_NumText.f k (((((x8).getD (x10).toNat .bad).cells.getD 1 .bad)).toInt)).bind fun t1 => cond (decide (((t0 ++ (⟨#[58]⟩ : ByteArray))).size + (t1).size ≤ 140737488355328)) (cond (decide ((x3).length + 1 < 8796093022208)) (j0 (x3 ++ ([(.str ((t0 ++ (⟨#[58]⟩ : ByteArray)) ++ t1))] : List T)) x8z x8 x9 (RowKit.wrap64 (x10 + 1)) c1_0 c1_1z c1_1) (none)) (none)) (none)) (none)) (none)) ((impl_NumText.f k c1_0).bind fun t0 => cond (decide (((⟨#[116, 99, 32]⟩ : ByteArray)).size + (t0).size ≤ 140737488355328)) (cond (decide ((((⟨#[116, 99, 32]⟩ : ByteArray) ++ t0)).size + ((⟨#[32]⟩ : ByteArray)).size ≤ 140737488355328)) ((impl_orDash.f k false x3).bind fun t1 => cond (decide (((((⟨#[116, 99, 32]⟩ : ByteArray) ++ t0) ++ (⟨#[32]⟩ : ByteArray))).size + (t1).size ≤ 140737488355328)) (ret ((((⟨#[116, 99, 32]⟩ : ByteArray) ++ t0) ++ (⟨#[32]⟩ : ByteArray)) ++ t1)) (none)) (none)) (none))
def impl_TcText.l0 : Nat → (List T) → Bool → (List T) → Int → Int → Int → Bool → (List T) → Option ByteArray
  | 0, _, _, _, _, _, _, _, _ => none
  | k + 1, x3, x8z, x8, x9, x10, c1_0, c1_1z, c1_1 => impl_TcText.l0b some (impl_TcText.l0 k) k x3 x8z x8 x9 x10 c1_0 c1_1z c1_1
def impl_TcText.f : Nat → Int → Bool → (List T) → Option ByteArray
  | 0, _, _, _ => none
  | k + 1, a0_0, a0_1z, a0_1 => impl_TcText.b some (impl_TcText.l0 k) k a0_0 a0_1z a0_1
def impl_TcText.enc (r : ByteArray) : Res := ⟨[.vals false [((.str r), true)]], []⟩
def impl_TcText.ans (k : Nat) : List Arg → Ans
  | [.v (.agg [(.int .i64 a0_0), (.sl 102 a0_1z a0_1)])] => ⟨impl_TcText.f k a0_0 a0_1z a0_1, impl_TcText.enc⟩
  | _ => Ans.no
def impl_TcText.Cs (k : Nat) : CallSem := tab [(60, impl_NumText.ans k), (62, impl_orDash.ans k)]
def impl_TcText.cuts : List (Nat × Keep) := [(58, ⟨[(1, some []), (3, none), (8, some []), (9, some []), (10, some [])], [(1, [some [], some []])]⟩)]
noncomputable def impl_TcText.K0 : List Fr := framesAt [true, true, false, true, false] (bodyOf Tryz.f34 impl_TcText.cuts) []
def impl_TcText.N0 (x3 : List T) (x8z : Bool) (x8 : List T) (x9 : Int) (x10 : Int) (c1_0 : Int) (c1_1z : Bool) (c1_1 : List T) : St := stOf 34 34 1 [(1, .bp 1 0), (3, .val ⟨(.sl 9 false x3), [.l 3 0], true, some (.l 3 0)⟩), (8, .val ⟨(.sl 102 x8z x8), [], false, none⟩), (9, .val (V.s (.int .i64 x9))), (10, .val (V.s (.int .i64 x10)))] [(1, .cells [V.s (.int .i64 c1_0), ⟨(.sl 102 c1_1z c1_1), [], false, none⟩])]
theorem impl_TcText.s (k : Nat) (a0_0 : Int) (a0_1z : Bool) (a0_1 : List T) : answer Tryz.prog impl_TcText.Cs 100000 impl_TcText.cuts [] Tryz.f34 (k + 1) [.v (.agg [(.int .i64 a0_0), (.sl 102 a0_1z a0_1)])] = impl_TcText.b (fun r => some (impl_TcText.enc r)) (fun x3 x8z x8 x9 x10 c1_0 c1_1z c1_1 => rounds Tryz.prog impl_TcText.Cs (finish Tryz.prog [] Tryz.f34 [.v (.agg [(.int .i64 a0_0), (.sl 102 a0_1z a0_1)])]) 100000 k impl_TcText.K0 (impl_TcText.N0 x3 x8z x8 x9 x10 c1_0 c1_1z c1_1)) k a0_0 a0_1z a0_1 := by kernel_rfl
theorem impl_TcText.s0 (k : Nat) (G : List Fr → St → Option Res) (a0_0 : Int) (a0_1z : Bool) (a0_1 : List T) (yx3 : List T) (yx8z : Bool) (yx8 : List T) (yx9 : Int) (yx10 : Int) (yc1_0 : Int) (yc1_1z : Bool) (yc1_1 : List T) : resume Tryz.prog (impl_TcText.Cs k) G (finish Tryz.prog [] Tryz.f34 [.v (.agg [(.int .i64 a0_0), (.sl 102 a0_1z a0_1)])]) 100000 impl_TcText.K0 (impl_TcText.N0 yx3 yx8z yx8 yx9 yx10 yc1_0 yc1_1z yc1_1) = impl_TcText.l0b (fun r => some (impl_TcText.enc r)) (fun x3 x8z x8 x9 x10 c1_0 c1_1z c1_1 => G impl_TcText.K0 (impl_TcText.N0 x3 x8z x8 x9 x10 c1_0 c1_1z c1_1)) k yx3 yx8z yx8 yx9 yx10 yc1_0 yc1_1z yc1_1 := by kernel_rfl
theorem impl_TcText.b_nat {R R' : Type} (e : R → R') (ret : ByteArray → Option R) (j0 : (List T) → Bool → (List T) → Int → Int → Int → Bool → (List T) → Option R) (k : Nat) (a0_0 : Int) (a0_1z : Bool) (a0_1 : List T) : impl_TcText.b (fun r => (ret r).map e) (fun x3 x8z x8 x9 x10 c1_0 c1_1z c1_1 => (j0 x3 x8z x8 x9 x10 c1_0 c1_1z c1_1).map e) k a0_0 a0_1z a0_1 = (impl_TcText.b ret j0 k a0_0 a0_1z a0_1).map e := by
  unfold impl_TcText.b
  repeat' first | with_reducible refine nat_cond ?_ ?_ | with_reducible refine nat_bind fun _ => ?_ | rfl
theorem impl_TcText.l0b_nat {R R' : Type} (e : R → R') (ret : ByteArray → Option R) (j0 : (List T) → Bool → (List T) → Int → Int → Int → Bool → (List T) → Option R) (k : Nat) (x3 : List T) (x8z : Bool) (x8 : List T) (x9 : Int) (x10 : Int) (c1_0 : Int) (c1_1z : Bool) (c1_1 : List T) : impl_TcText.l0b (fun r => (ret r).map e) (fun x3 x8z x8 x9 x10 c1_0 c1_1z c1_1 => (j0 x3 x8z x8 x9 x10 c1_0 c1_1z c1_1).map e) k x3 x8z x8 x9 x10 c1_0 c1_1z c1_1 = (impl_TcText.l0b ret j0 k x3 x8z x8 x9 x10 c1_0 c1_1z c1_1).map e := by
  unfold impl_TcText.l0b
  repeat' first | with_reducible refine nat_cond ?_ ?_ | with_reducible refine nat_bind fun _ => ?_ | rfl
theorem impl_TcText.rounds_eq (a0_0 : Int) (a0_1z : Bool) (a0_1 : List T) : ∀ k, (∀ (x3 : List T) (x8z : Bool) (x8 : List T) (x9 : Int) (x10 : Int) (c1_0 : Int) (c1_1z : Bool) (c1_1 : List T), rounds Tryz.prog impl_TcText.Cs (finish Tryz.prog [] Tryz.f34 [.v (.agg [(.int .i64 a0_0), (.sl 102 a0_1z a0_1)])]) 100000 k impl_TcText.K0 (impl_TcText.N0 x3 x8z x8 x9 x10 c1_0 c1_1z c1_1) = (impl_TcText.l0 k x3 x8z x8 x9 x10 c1_0 c1_1z c1_1).map impl_TcText.enc)
  | 0 => fun _ _ _ _ _ _ _ _ => rfl
  | k + 1 => by
    have ih := impl_TcText.rounds_eq a0_0 a0_1z a0_1 k
    refine fun _ _ _ _ _ _ _ _ => ?_
    · refine (impl_TcText.s0 k _ a0_0 a0_1z a0_1 _ _ _ _ _ _ _ _).trans (Eq.trans ?_ (impl_TcText.l0b_nat impl_TcText.enc some (impl_TcText.l0 k) k _ _ _ _ _ _ _ _))
      simp only [ih, Option.map_some]
theorem impl_TcText.eq (k : Nat) (a0_0 : Int) (a0_1z : Bool) (a0_1 : List T) : answer Tryz.prog impl_TcText.Cs 100000 impl_TcText.cuts [] Tryz.f34 (k + 1) [.v (.agg [(.int .i64 a0_0), (.sl 102 a0_1z a0_1)])] = (impl_TcText.f (k + 1) a0_0 a0_1z a0_1).map impl_TcText.enc := by
  have ih := impl_TcText.rounds_eq a0_0 a0_1z a0_1 k
  refine (impl_TcText.s k a0_0 a0_1z a0_1).trans (Eq.trans ?_ (impl_TcText.b_nat impl_TcText.enc some (impl_TcText.l0 k) k a0_0 a0_1z a0_1))
  simp only [ih, Option.map_some]
theorem impl_TcText.sound (k : Nat) : SoundF Tryz.prog 34 (fun a => (impl_TcText.ans k a).val) := by
  refine sound_plain (fun args res h => ?_) (fun t n => rfl)
  unfold impl_TcText.ans at h
  dsimp only at h
  split at h
  · cases k with
    | zero => cases h
    | succ k =>
      unfold Ans.val at h
      rw [← impl_TcText.eq] at h
      exact answer_sound mixed Tryz.func34 _ _ _ (k + 1) (fun j _ => tab_sound (tab_cons (impl_NumText.sound j) (tab_cons (impl_orDash.sound j) (tab_nil)))) _ _ h
  · exact (Ans.no_val h).elim

/-! loop.example/g00790/impl.ProofText -/
def impl_ProofText.b {R : Type} (ret : ByteArray → Option R) (j0 : ByteArray → Bool → (List T) → Int → Int → Option R) (k : Nat) (a0_0z : Bool) (a0_0 : List T) (a0_1 : Int) (a0_2 : Int) (a0_3z : Bool) (a0_3 : List Int) (a0_4z : Bool) (a0_4 : List Int) (a0_5z : Bool) (a0_5 : List T) : Option R :=
  j0 (⟨#[112, 114, 111, 111, 102]⟩ : ByteArray) a0_0z a0_0 ((a0_0).length : Int) 0
def impl_ProofText.l0b {R : Type} (ret : ByteArray → Option R) (j0 : ByteArray → Bool → (List T) → Int → Int → Option R) (k : Nat) (x3 : ByteArray) (x7z : Bool) (x7 : List T) (x8 : Int) (x9 : Int) : Option R :=
  cond (decide (x9 < x8)) (cond (decide ((0 : Int) ≤ x9)) (cond (decide (x9 < ((x7).length : Int))) ((impl_place.f k (((((x7).getD (x9).toNat .bad).cells.getD 0 .bad)).toInt) (((((x7).getD (x9).toNat .bad).cells.getD 1 .bad)).toInt)).bind fun t0 => cond (decide (((⟨#[32]⟩ : ByteArray)).size + (t0).size ≤ 140737488355328)) (cond (decide ((x3).size + (((⟨#[32]⟩ : ByteArray) ++ t0)).size ≤ 140737488355328)) (j0 (x3 ++ ((⟨#[32]⟩ : ByteArray) ++ t0)) x7z x7 x8 (RowKit.wrap64 (x9 + 1))) (none)) (none)) (none)) (none)) (ret x3)
def impl_ProofText.l0 : Nat → ByteArray → Bool → (List T) → Int → Int → Option ByteArray
  | 0, _, _, _, _, _ => none
  | k + 1, x3, x7z, x7, x8, x9 => impl_ProofText.l0b some (impl_ProofText.l0 k) k x3 x7z x7 x8 x9
def impl_ProofText.f : Nat → Bool → (List T) → Int → Int → Bool → (List Int) → Bool → (List Int) → Bool → (List T) → Option ByteArray
  | 0, _, _, _, _, _, _, _, _, _, _ => none
  | k + 1, a0_0z, a0_0, a0_1, a0_2, a0_3z, a0_3, a0_4z, a0_4, a0_5z, a0_5 => impl_ProofText.b some (impl_ProofText.l0 k) k a0_0z a0_0 a0_1 a0_2 a0_3z a0_3 a0_4z a0_4 a0_5z a0_5
def impl_ProofText.enc (r : ByteArray) : Res := ⟨[.vals false [((.str r), true)]], []⟩
def impl_ProofText.ans (k : Nat) : List Arg → Ans
  | [.v (.agg [(.sl 47 a0_0z a0_0), (.int .i64 a0_1), (.int .i64 a0_2), (.nums 5 .u8 a0_3z a0_3), (.nums 5 .u8 a0_4z a0_4), (.sl 22 a0_5z a0_5)])] => ⟨impl_ProofText.f k a0_0z a0_0 a0_1 a0_2 a0_3z a0_3 a0_4z a0_4 a0_5z a0_5, impl_ProofText.enc⟩
  | _ => Ans.no
def impl_ProofText.Cs (k : Nat) : CallSem := tab [(58, impl_place.ans k)]
def impl_ProofText.cuts : List (Nat × Keep) := [(58, ⟨[(3, some []), (7, some []), (8, some []), (9, some [])], []⟩)]
noncomputable def impl_ProofText.K0 : List Fr := framesAt [true, true, false, true, false] (bodyOf Tryz.f35 impl_ProofText.cuts) []
def impl_ProofText.N0 (x3 : ByteArray) (x7z : Bool) (x7 : List T) (x8 : Int) (x9 : Int) : St := stOf 23 23 1 [(3, .val (V.s (.str x3))), (7, .val ⟨(.sl 47 x7z x7), [], false, none⟩), (8, .val (V.s (.int .i64 x8))), (9, .val (V.s (.int .i64 x9)))] []
theorem impl_ProofText.s (k : Nat) (a0_0z : Bool) (a0_0 : List T) (a0_1 : Int) (a0_2 : Int) (a0_3z : Bool) (a0_3 : List Int) (a0_4z : Bool) (a0_4 : List Int) (a0_5z : Bool) (a0_5 : List T) : answer Tryz.prog impl_ProofText.Cs 100000 impl_ProofText.cuts [] Tryz.f35 (k + 1) [.v (.agg [(.sl 47 a0_0z a0_0), (.int .i64 a0_1), (.int .i64 a0_2), (.nums 5 .u8 a0_3z a0_3), (.nums 5 .u8 a0_4z a0_4), (.sl 22 a0_5z a0_5)])] = impl_ProofText.b (fun r => some (impl_ProofText.enc r)) (fun x3 x7z x7 x8 x9 => rounds Tryz.prog impl_ProofText.Cs (finish Tryz.prog [] Tryz.f35 [.v (.agg [(.sl 47 a0_0z a0_0), (.int .i64 a0_1), (.int .i64 a0_2), (.nums 5 .u8 a0_3z a0_3), (.nums 5 .u8 a0_4z a0_4), (.sl 22 a0_5z a0_5)])]) 100000 k impl_ProofText.K0 (impl_ProofText.N0 x3 x7z x7 x8 x9)) k a0_0z a0_0 a0_1 a0_2 a0_3z a0_3 a0_4z a0_4 a0_5z a0_5 := by kernel_rfl
theorem impl_ProofText.s0 (k : Nat) (G : List Fr → St → Option Res) (a0_0z : Bool) (a0_0 : List T) (a0_1 : Int) (a0_2 : Int) (a0_3z : Bool) (a0_3 : List Int) (a0_4z : Bool) (a0_4 : List Int) (a0_5z : Bool) (a0_5 : List T) (yx3 : ByteArray) (yx7z : Bool) (yx7 : List T) (yx8 : Int) (yx9 : Int) : resume Tryz.prog (impl_ProofText.Cs k) G (finish Tryz.prog [] Tryz.f35 [.v (.agg [(.sl 47 a0_0z a0_0), (.int .i64 a0_1), (.int .i64 a0_2), (.nums 5 .u8 a0_3z a0_3), (.nums 5 .u8 a0_4z a0_4), (.sl 22 a0_5z a0_5)])]) 100000 impl_ProofText.K0 (impl_ProofText.N0 yx3 yx7z yx7 yx8 yx9) = impl_ProofText.l0b (fun r => some (impl_ProofText.enc r)) (fun x3 x7z x7 x8 x9 => G impl_ProofText.K0 (impl_ProofText.N0 x3 x7z x7 x8 x9)) k yx3 yx7z yx7 yx8 yx9 := by kernel_rfl
theorem impl_ProofText.b_nat {R R' : Type} (e : R → R') (ret : ByteArray → Option R) (j0 : ByteArray → Bool → (List T) → Int → Int → Option R) (k : Nat) (a0_0z : Bool) (a0_0 : List T) (a0_1 : Int) (a0_2 : Int) (a0_3z : Bool) (a0_3 : List Int) (a0_4z : Bool) (a0_4 : List Int) (a0_5z : Bool) (a0_5 : List T) : impl_ProofText.b (fun r => (ret r).map e) (fun x3 x7z x7 x8 x9 => (j0 x3 x7z x7 x8 x9).map e) k a0_0z a0_0 a0_1 a0_2 a0_3z a0_3 a0_4z a0_4 a0_5z a0_5 = (impl_ProofText.b ret j0 k a0_0z a0_0 a0_1 a0_2 a0_3z a0_3 a0_4z a0_4 a0_5z a0_5).map e := by
  unfold impl_ProofText.b
  repeat' first | with_reducible refine nat_cond ?_ ?_ | with_reducible refine nat_bind fun _ => ?_ | rfl
theorem impl_ProofText.l0b_nat {R R' : Type} (e : R → R') (ret : ByteArray → Option R) (j0 : ByteArray → Bool → (List T) → Int → Int → Option R) (k : Nat) (x3 : ByteArray) (x7z : Bool) (x7 : List T) (x8 : Int) (x9 : Int) : impl_ProofText.l0b (fun r => (ret r).map e) (fun x3 x7z x7 x8 x9 => (j0 x3 x7z x7 x8 x9).map e) k x3 x7z x7 x8 x9 = (impl_ProofText.l0b ret j0 k x3 x7z x7 x8 x9).map e := by
  unfold impl_ProofText.l0b
  repeat' first | with_reducible refine nat_cond ?_ ?_ | with_reducible refine nat_bind fun _ => ?_ | rfl
theorem impl_ProofText.rounds_eq (a0_0z : Bool) (a0_0 : List T) (a0_1 : Int) (a0_2 : Int) (a0_3z : Bool) (a0_3 : List Int) (a0_4z : Bool) (a0_4 : List Int) (a0_5z : Bool) (a0_5 : List T) : ∀ k, (∀ (x3 : ByteArray) (x7z : Bool) (x7 : List T) (x8 : Int) (x9 : Int), rounds Tryz.prog impl_ProofText.Cs (finish Tryz.prog [] Tryz.f35 [.v (.agg [(.sl 47 a0_0z a0_0), (.int .i64 a0_1), (.int .i64 a0_2), (.nums 5 .u8 a0_3z a0_3), (.nums 5 .u8 a0_4z a0_4), (.sl 22 a0_5z a0_5)])]) 100000 k impl_ProofText.K0 (impl_ProofText.N0 x3 x7z x7 x8 x9) = (impl_ProofText.l0 k x3 x7z x7 x8 x9).map impl_ProofText.enc)
  | 0 => fun _ _ _ _ _ => rfl
  | k + 1 => by
    have ih := impl_ProofText.rounds_eq a0_0z a0_0 a0_1 a0_2 a0_3z a0_3 a0_4z a0_4 a0_5z a0_5 k
    refine fun _ _ _ _ _ => ?_
    · refine (impl_ProofText.s0 k _ a0_0z a0_0 a0_1 a0_2 a0_3z a0_3 a0_4z a0_4 a0_5z a0_5 _ _ _ _ _).trans (Eq.trans ?_ (impl_ProofText.l0b_nat impl_ProofText.enc some (impl_ProofText.l0 k) k _ _ _ _ _))
      simp only [ih, Option.map_some]
theorem impl_ProofText.eq (k : Nat) (a0_0z : Bool) (a0_0 : List T) (a0_1 : Int) (a0_2 : Int) (a0_3z : Bool) (a0_3 : List Int) (a0_4z : Bool) (a0_4 : List Int) (a0_5z : Bool) (a0_5 : List T) : answer Tryz.prog impl_ProofText.Cs 100000 impl_ProofText.cuts [] Tryz.f35 (k + 1) [.v (.agg [(.sl 47 a0_0z a0_0), (.int .i64 a0_1), (.int .i64 a0_2), (.nums 5 .u8 a0_3z a0_3), (.nums 5 .u8 a0_4z a0_4), (.sl 22 a0_5z a0_5)])] = (impl_ProofText.f (k + 1) a0_0z a0_0 a0_1 a0_2 a0_3z a0_3 a0_4z a0_4 a0_5z a0_5).map impl_ProofText.enc := by
  have ih := impl_ProofText.rounds_eq a0_0z a0_0 a0_1 a0_2 a0_3z a0_3 a0_4z a0_4 a0_5z a0_5 k
  refine (impl_ProofText.s k a0_0z a0_0 a0_1 a0_2 a0_3z a0_3 a0_4z a0_4 a0_5z a0_5).trans (Eq.trans ?_ (impl_ProofText.b_nat impl_ProofText.enc some (impl_ProofText.l0 k) k a0_0z a0_0 a0_1 a0_2 a0_3z a0_3 a0_4z a0_4 a0_5z a0_5))
  simp only [ih, Option.map_some]
theorem impl_ProofText.sound (k : Nat) : SoundF Tryz.prog 35 (fun a => (impl_ProofText.ans k a).val) := by
  refine sound_plain (fun args res h => ?_) (fun t n => rfl)
  unfold impl_ProofText.ans at h
  dsimp only at h
  split at h
  · cases k with
    | zero => cases h
    | succ k =>
      unfold Ans.val at h
      rw [← impl_ProofText.eq] at h
      exact answer_sound mixed Tryz.func35 _ _ _ (k + 1) (fun j _ => tab_sound (tab_cons (impl_place.sound j) (tab_nil))) _ _ h
  · exact (Ans.no_val h).elim

/-! loop.example/g00790/impl.InclText -/
def impl_InclText.b {R : Type} (ret : ByteArray → Option R) (j0 : ByteArray → Int → Int → Int → Bool → (List Int) → Bool → (List T) → Option R) (k : Nat) (a0_0 : Int) (a0_1 : Int) (a0_2 : Int) (a0_3z : Bool) (a0_3 : List Int) (a0_4z : Bool) (a0_4 : List T) : Option R :=
  (impl_HexText.f k a0_3z a0_3).bind fun t0 => cond (decide (t0 = (⟨#[]⟩ : ByteArray))) (j0 (⟨#[45]⟩ : ByteArray) a0_0 a0_1 a0_2 a0_3z a0_3 a0_4z a0_4) (j0 t0 a0_0 a0_1 a0_2 a0_3z a0_3 a0_4z a0_4)
def impl_InclText.l0b {R : Type} (ret : ByteArray → Option R) (j0 : ByteArray → Int → Int → Int → Bool → (List Int) → Bool → (List T) → Option R) (k : Nat) (x3 : ByteArray) (c1_0 : Int) (c1_1 : Int) (c1_2 : Int) (c1_3z : Bool) (c1_3 : List Int) (c1_4z : Bool) (c1_4 : List T) : Option R :=
  (impl_NumText.f k c1_0).bind fun t0 => cond (decide (((⟨#[105, 110, 99, 108, 32]⟩ : ByteArray)).size + (t0).size ≤ 140737488355328)) (cond (decide ((((⟨#[105, 110, 99, 108, 32]⟩ : ByteArray) ++ t0)).size + ((⟨#[32]⟩ : ByteArray)).size ≤ 140737488355328)) ((impl_place.f k c1_2 c1_1).bind fun t1 => cond (decide (((((⟨#[105, 110, 99, 108, 32]⟩ : ByteArray) ++ t0) ++ (⟨#[32]⟩ : ByteArray))).size + (t1).size ≤ 140737488355328)) (cond (decide ((((((⟨#[105, 110, 99, 108, 32]⟩ : ByteArray) ++ t0) ++ (⟨#[32]⟩ : ByteArray)) ++ t1)).size + ((⟨#[32]⟩ : ByteArray)).size ≤ 140737488355328)) (cond (decide (((((((⟨#[105, 110, 99, 108, 32]⟩ : ByteArray) ++ t0) ++ (⟨#[32]⟩ : ByteArray)) ++ t1) ++ (⟨#[32]⟩ : ByteArray))).size + (x3).size ≤ 140737488355328)) (ret ((((((⟨#[105, 110, 99, 108, 32]⟩ : ByteArray) ++ t0) ++ (⟨#[32]⟩ : ByteArray)) ++ t1) ++ (⟨#[32]⟩ : ByteArray)) ++ x3)) (none)) (none)) (none)) (none)) (none)
def impl_InclText.l0 : Nat → ByteArray → Int → Int → Int → Bool → (List Int) → Bool → (List T) → Option ByteArray
  | 0, _, _, _, _, _, _, _, _ => none
  | k + 1, x3, c1_0, c1_1, c1_2, c1_3z, c1_3, c1_4z, c1_4 => impl_InclText.l0b some (impl_InclText.l0 k) k x3 c1_0 c1_1 c1_2 c1_3z c1_3 c1_4z c1_4
def impl_InclText.f : Nat → Int → Int → Int → Bool → (List Int) → Bool → (List T) → Option ByteArray
  | 0, _, _, _, _, _, _, _ => none
  | k + 1, a0_0, a0_1, a0_2, a0_3z, a0_3, a0_4z, a0_4 => impl_InclText.b some (impl_InclText.l0 k) k a0_0 a0_1 a0_2 a0_3z a0_3 a0_4z a0_4
def impl_InclText.enc (r : ByteArray) : Res := ⟨[.vals false [((.str r), true)]], []⟩
def impl_InclText.ans (k : Nat) : List Arg → Ans
  | [.v (.agg [(.int .i64 a0_0), (.int .i64 a0_1), (.int .i64 a0_2), (.nums 5 .u8 a0_3z a0_3), (.sl 22 a0_4z a0_4)])] => ⟨impl_InclText.f k a0_0 a0_1 a0_2 a0_3z a0_3 a0_4z a0_4, impl_InclText.enc⟩
  | _ => Ans.no
def impl_InclText.Cs (k : Nat) : CallSem := tab [(58, impl_place.ans k), (60, impl_NumText.ans k), (63, impl_HexText.ans k)]
def impl_InclText.cuts : List (Nat × Keep) := [(7, ⟨[(1, some []), (3, some [])], [(1, [some [], some [], some [], some [], some []])]⟩)]
noncomputable def impl_InclText.K0 : List Fr := framesAt [true, true] (bodyOf Tryz.f36 impl_InclText.cuts) []
def impl_InclText.N0 (x3 : ByteArray) (c1_0 : Int) (c1_1 : Int) (c1_2 : Int) (c1_3z : Bool) (c1_3 : List Int) (c1_4z : Bool) (c1_4 : List T) : St := stOf 23 23 1 [(1, .bp 1 0), (3, .val (V.s (.str x3)))] [(1, .cells [V.s (.int .i64 c1_0), V.s (.int .i64 c1_1), V.s (.int .i64 c1_2), ⟨(.nums 5 .u8 c1_3z c1_3), [], false, none⟩, ⟨(.sl 22 c1_4z c1_4), [], false, none⟩])]
theorem impl_InclText.s (k : Nat) (a0_0 : Int) (a0_1 : Int) (a0_2 : Int) (a0_3z : Bool) (a0_3 : List Int) (a0_4z : Bool) (a0_4 : List T) : answer Tryz.prog impl_InclText.Cs 100000 impl_InclText.cuts [] Tryz.f36 (k + 1) [.v (.agg [(.int .i64 a0_0), (.int .i64 a0_1), (.int .i64 a0_2), (.nums 5 .u8 a0_3z a0_3), (.sl 22 a0_4z a0_4)])] = impl_InclText.b (fun r => some (impl_InclText.enc r)) (fun x3 c1_0 c1_1 c1_2 c1_3z c1_3 c1_4z c1_4 => rounds Tryz.prog impl_InclText.Cs (finish Tryz.prog [] Tryz.f36 [.v (.agg [(.int .i64 a0_0), (.int .i64 a0_1), (.int .i64 a0_2), (.nums 5 .u8 a0_3z a0_3), (.sl 22 a0_4z a0_4)])]) 100000 k impl_InclText.K0 (impl_InclText.N0 x3 c1_0 c1_1 c1_2 c1_3z c1_3 c1_4z c1_4)) k a0_0 a0_1 a0_2 a0_3z a0_3 a0_4z a0_4 := by kernel_rfl
theorem impl_InclText.s0 (k : Nat) (G : List Fr → St → Option Res) (a0_0 : Int) (a0_1 : Int) (a0_2 : Int) (a0_3z : Bool) (a0_3 : List Int) (a0_4z : Bool) (a0_4 : List T) (yx3 : ByteArray) (yc1_0 : Int) (yc1_1 : Int) (yc1_2 : Int) (yc1_3z : Bool) (yc1_3 : List Int) (yc1_4z : Bool) (yc1_4 : List T) : resume Tryz.prog (impl_InclText.Cs k) G (finish Tryz.prog [] Tryz.f36 [.v (.agg [(.int .i64 a0_0), (.int .i64 a0_1), (.int .i64 a0_2), (.nums 5 .u8 a0_3z a0_3), (.sl 22 a0_4z a0_4)])]) 100000 impl_InclText.K0 (impl_InclText.N0 yx3 yc1_0 yc1_1 yc1_2 yc1_3z yc1_3 yc1_4z yc1_4) = impl_InclText.l0b (fun r => some (impl_InclText.enc r)) (fun x3 c1_0 c1_1 c1_2 c1_3z c1_3 c1_4z c1_4 => G impl_InclText.K0 (impl_InclText.N0 x3 c1_0 c1_1 c1_2 c1_3z c1_3 c1_4z c1_4)) k yx3 yc1_0 yc1_1 yc1_2 yc1_3z yc1_3 yc1_4z yc1_4 := by kernel_rfl
theorem impl_InclText.b_nat {R R' : Type} (e : R → R') (ret : ByteArray → Option R) (j0 : ByteArray → Int → Int → Int → Bool → (List Int) → Bool → (List T) → Option R) (k : Nat) (a0_0 : Int) (a0_1 : Int) (a0_2 : Int) (a0_3z : Bool) (a0_3 : List Int) (a0_4z : Bool) (a0_4 : List T) : impl_InclText.b (fun r => (ret r).map e) (fun x3 c1_0 c1_1 c1_2 c1_3z c1_3 c1_4z c1_4 => (j0 x3 c1_0 c1_1 c1_2 c1_3z c1_3 c1_4z c1_4).map e) k a0_0 a0_1 a0_2 a0_3z a0_3 a0_4z a0_4 = (impl_InclText.b ret j0 k a0_0 a0_1 a0_2 a0_3z a0_3 a0_4z a0_4).map e := by
  unfold impl_InclText.b
  repeat' first | with_reducible refine nat_cond ?_ ?_ | with_reducible refine nat_bind fun _ => ?_ | rfl
theorem impl_InclText.l0b_nat {R R' : Type} (e : R → R') (ret : ByteArray → Option R) (j0 : ByteArray → Int → Int → Int → Bool → (List Int) → Bool → (List T) → Option R) (k : Nat) (x3 : ByteArray) (c1_0 : Int) (c1_1 : Int) (c1_2 : Int) (c1_3z : Bool) (c1_3 : List Int) (c1_4z : Bool) (c1_4 : List T) : impl_InclText.l0b (fun r => (ret r).map e) (fun x3 c1_0 c1_1 c1_2 c1_3z c1_3 c1_4z c1_4 => (j0 x3 c1_0 c1_1 c1_2 c1_3z c1_3 c1_4z c1_4).map e) k x3 c1_0 c1_1 c1_2 c1_3z c1_3 c1_4z c1_4 = (impl_InclText.l0b ret j0 k x3 c1_0 c1_1 c1_2 c1_3z c1_3 c1_4z c1_4).map e := by
  unfold impl_InclText.l0b
  repeat' first | with_reducible refine nat_cond ?_ ?_ | with_reducible refine nat_bind fun _ => ?_ | rfl
theorem impl_InclText.rounds_eq (a0_0 : Int) (a0_1 : Int) (a0_2 : Int) (a0_3z : Bool) (a0_3 : List Int) (a0_4z : Bool) (a0_4 : List T) : ∀ k, (∀ (x3 : ByteArray) (c1_0 : Int) (c1_1 : Int) (c1_2 : Int) (c1_3z : Bool) (c1_3 : List Int) (c1_4z : Bool) (c1_4 : List T), rounds Tryz.prog impl_InclText.Cs (finish Tryz.prog [] Tryz.f36 [.v (.agg [(.int .i64 a0_0), (.int .i64 a0_1), (.int .i64 a0_2), (.nums 5 .u8 a0_3z a0_3), (.sl 22 a0_4z a0_4)])]) 100000 k impl_InclText.K0 (impl_InclText.N0 x3 c1_0 c1_1 c1_2 c1_3z c1_3 c1_4z c1_4) = (impl_InclText.l0 k x3 c1_0 c1_1 c1_2 c1_3z c1_3 c1_4z c1_4).map impl_InclText.enc)
  | 0 => fun _ _ _ _ _ _ _ _ => rfl
  | k + 1 => by
    have ih := impl_InclText.rounds_eq a0_0 a0_1 a0_2 a0_3z a0_3 a0_4z a0_4 k
    refine fun _ _ _ _ _ _ _ _ => ?_
    · refine (impl_InclText.s0 k _ a0_0 a0_1 a0_2 a0_3z a0_3 a0_4z a0_4 _ _ _ _ _ _ _ _).trans (Eq.trans ?_ (impl_InclText.l0b_nat impl_InclText.enc some (impl_InclText.l0 k) k _ _ _ _ _ _ _ _))
      simp only [ih, Option.map_some]
theorem impl_InclText.eq (k : Nat) (a0_0 : Int) (a0_1 : Int) (a0_2 : Int) (a0_3z : Bool) (a0_3 : List Int) (a0_4z : Bool) (a0_4 : List T) : answer Tryz.prog impl_InclText.Cs 100000 impl_InclText.cuts [] Tryz.f36 (k + 1) [.v (.agg [(.int .i64 a0_0), (.int .i64 a0_1), (.int .i64 a0_2), (.nums 5 .u8 a0_3z a0_3), (.sl 22 a0_4z a0_4)])] = (impl_InclText.f (k + 1) a0_0 a0_1 a0_2 a0_3z a0_3 a0_4z a0_4).map impl_InclText.enc := by
  have ih := impl_InclText.rounds_eq a0_0 a0_1 a0_2 a0_3z a0_3 a0_4z a0_4 k
  refine (impl_InclText.s k a0_0 a0_1 a0_2 a0_3z a0_3 a0_4z a0_4).trans (Eq.trans ?_ (impl_InclText.b_nat impl_InclText.enc some (impl_InclText.l0 k) k a0_0 a0_1 a0_2 a0_3z a0_3 a0_4z a0_4))
  simp only [ih, Option.map_some]
theorem impl_InclText.sound (k : Nat) : SoundF Tryz.prog 36 (fun a => (impl_InclText.ans k a).val) := by
  refine sound_plain (fun args res h => ?_) (fun t n => rfl)
  unfold impl_InclText.ans at h
  dsimp only at h
  split at h
  · cases k with
    | zero => cases h
    | succ k =>
      unfold Ans.val at h
      rw [← impl_InclText.eq] at h
      exact answer_sound mixed Tryz.func36 _ _ _ (k + 1) (fun j _ => tab_sound (tab_cons (impl_place.sound j) (tab_cons (impl_NumText.sound j) (tab_cons (impl_HexText.sound j) (tab_nil))))) _ _ h
  · exact (Ans.no_val h).elim

/-! loop.example/g00790/impl.MsgText -/
def impl_MsgText.b {R : Type} (ret : ByteArray → Option R) (k : Nat) (a0_0 : Int) (a0_1 : Int) (a0_2 : Int) (a0_3z : Bool) (a0_3 : List Int) (a0_4 : Int) (a0_5z : Bool) (a0_5 : List Int) (a0_6 : Int) (a0_7 : Int) (a0_8z : Bool) (a0_8 : List Int) (a0_9z : Bool) (a0_9 : List Int) (a0_10z : Bool) (a0_10 : List T) (a0_11 : Int) (a0_12 : Int) (a0_13 : Int) (a0_14z : Bool) (a0_14 : List Int) (a0_15z : Bool) (a0_15 : List Int) (a0_16 : Int) (a0_17 : Int) (a0_18z : Bool) (a0_18 : List Int) (a0_19z : Bool) (a0_19 : List Int) (a0_20z : Bool) (a0_20 : List T) (a0_21 : Int) (a0_22 : Int) (a0_23 : Int) (a0_24z : Bool) (a0_24 : List Int) (a0_25z : Bool) (a0_25 : List Int) (a0_26 : Int) (a0_27 : Int) (a0_28z : Bool) (a0_28 : List Int) (a0_29z : Bool) (a0_29 : List Int) (a0_30z : Bool) (a0_30 : List T) (a0_31z : Bool) (a0_31 : List T) (a0_32 : Int) (a0_33z : Bool) (a0_33 : List T) (a0_34z : Bool) (a0_34 : List T) (a0_35 : Int) (a0_36 : Int) (a0_37z : Bool) (a0_37 : List Int) (a0_38z : Bool) (a0_38 : List Int) (a0_39z : Bool) (a0_39 : List T) (a0_40 : Int) (a0_41 : Int) (a0_42 : Int) (a0_43z : Bool) (a0_43 : List Int) (a0_44z : Bool) (a0_44 : List T) : Option R :=
  cond (decide (a0_0 = 1)) ((impl_VoteText.f k a0_1 a0_2 a0_3z a0_3 a0_4 a0_5z a0_5).bind fun t0 => ret t0) (cond (decide (a0_0 = 2)) ((impl_QcText.f k a0_6 a0_7 a0_8z a0_8 a0_9z a0_9 a0_10z a0_10).bind fun t0 => ret t0) (cond (decide (a0_0 = 3)) ((impl_HeadText.f k a0_11 a0_12 a0_13 a0_14z a0_14 a0_15z a0_15 a0_16 a0_17 a0_18z a0_18 a0_19z a0_19 a0_20z a0_20).bind fun t0 => ret t0) (cond (decide (a0_0 = 4)) ((impl_BlockText.f k a0_21 a0_22 a0_23 a0_24z a0_24 a0_25z a0_25 a0_26 a0_27 a0_28z a0_28 a0_29z a0_29 a0_30z a0_30 a0_31z a0_31).bind fun t0 => ret t0) (cond (decide (a0_0 = 5)) ((impl_TcText.f k a0_32 a0_33z a0_33).bind fun t0 => ret t0) (cond (decide (a0_0 = 6)) ((impl_ProofText.f k a0_34z a0_34 a0_35 a0_36 a0_37z a0_37 a0_38z a0_38 a0_39z a0_39).bind fun t0 => ret t0) (cond (decide (a0_0 = 7)) ((impl_InclText.f k a0_40 a0_41 a0_42 a0_43z a0_43 a0_44z a0_44).bind fun t0 => ret t0) (ret (⟨#[]⟩ : ByteArray))))))))
def impl_MsgText.f : Nat → Int → Int → Int → Bool → (List Int) → Int → Bool → (List Int) → Int → Int → Bool → (List Int) → Bool → (List Int) → Bool → (List T) → Int → Int → Int → Bool → (List Int) → Bool → (List Int) → Int → Int → Bool → (List Int) → Bool → (List Int) → Bool → (List T) → Int → Int → Int → Bool → (List Int) → Bool → (List Int) → Int → Int → Bool → (List Int) → Bool → (List Int) → Bool → (List T) → Bool → (List T) → Int → Bool → (List T) → Bool → (List T) → Int → Int → Bool → (List Int) → Bool → (List Int) → Bool → (List T) → Int → Int → Int → Bool → (List Int) → Bool → (List T) → Option ByteArray
  | 0, _, _, _, _, _, _, _, _, _, _, _, _, _, _, _, _, _, _, _, _, _, _, _, _, _, _, _, _, _, _, _, _, _, _, _, _, _, _, _, _, _, _, _, _, _, _, _, _, _, _, _, _, _, _, _, _, _, _, _, _, _, _, _, _, _, _, _, _ => none
  | k + 1, a0_0, a0_1, a0_2, a0_3z, a0_3, a0_4, a0_5z, a0_5, a0_6, a0_7, a0_8z, a0_8, a0_9z, a0_9, a0_10z, a0_10, a0_11, a0_12, a0_13, a0_14z, a0_14, a0_15z, a0_15, a0_16, a0_17, a0_18z, a0_18, a0_19z, a0_19, a0_20z, a0_20, a0_21, a0_22, a0_23, a0_24z, a0_24, a0_25z, a0_25, a0_26, a0_27, a0_28z, a0_28, a0_29z, a0_29, a0_30z, a0_30, a0_31z, a0_31, a0_32, a0_33z, a0_33, a0_34z, a0_34, a0_35, a0_36, a0_37z, a0_37, a0_38z, a0_38, a0_39z, a0_39, a0_40, a0_41, a0_42, a0_43z, a0_43, a0_44z, a0_44 => impl_MsgText.b some k a0_0 a0_1 a0_2 a0_3z a0_3 a0_4 a0_5z a0_5 a0_6 a0_7 a0_8z a0_8 a0_9z a0_9 a0_10z a0_10 a0_11 a0_12 a0_13 a0_14z a0_14 a0_15z a0_15 a0_16 a0_17 a0_18z a0_18 a0_19z a0_19 a0_20z a0_20 a0_21 a0_22 a0_23 a0_24z a0_24 a0_25z a0_25 a0_26 a0_27 a0_28z a0_28 a0_29z a0_29 a0_30z a0_30 a0_31z a0_31 a0_32 a0_33z a0_33 a0_34z a0_34 a0_35 a0_36 a0_37z a0_37 a0_38z a0_38 a0_39z a0_39 a0_40 a0_41 a0_42 a0_43z a0_43 a0_44z a0_44
def impl_MsgText.enc (r : ByteArray) : Res := ⟨[.vals false [((.str r), true)]], []⟩
def impl_MsgText.ans (k : Nat) : List Arg → Ans
  | [.v (.agg l0)] => (takeI l0 fun a0_0 l0 => (takeI l0 fun a0_1 l0 => (takeI l0 fun a0_2 l0 => (takeN 5 l0 fun a0_3z a0_3 l0 => (takeI l0 fun a0_4 l0 => (takeN 5 l0 fun a0_5z a0_5 l0 => (takeI l0 fun a0_6 l0 => (takeI l0 fun a0_7 l0 => (takeN 5 l0 fun a0_8z a0_8 l0 => (takeN 5 l0 fun a0_9z a0_9 l0 => (takeS 22 l0 fun a0_10z a0_10 l0 => (takeI l0 fun a0_11 l0 => (takeI l0 fun a0_12 l0 => (takeI l0 fun a0_13 l0 => (takeN 5 l0 fun a0_14z a0_14 l0 => (takeN 5 l0 fun a0_15z a0_15 l0 => (takeI l0 fun a0_16 l0 => (takeI l0 fun a0_17 l0 => (takeN 5 l0 fun a0_18z a0_18 l0 => (takeN 5 l0 fun a0_19z a0_19 l0 => (takeS 22 l0 fun a0_20z a0_20 l0 => (takeI l0 fun a0_21 l0 => (takeI l0 fun a0_22 l0 => (takeI l0 fun a0_23 l0 => (takeN 5 l0 fun a0_24z a0_24 l0 => (takeN 5 l0 fun a0_25z a0_25 l0 => (takeI l0 fun a0_26 l0 => (takeI l0 fun a0_27 l0 => (takeN 5 l0 fun a0_28z a0_28 l0 => (takeN 5 l0 fun a0_29z a0_29 l0 => (takeS 22 l0 fun a0_30z a0_30 l0 => (takeS 22 l0 fun a0_31z a0_31 l0 => (takeI l0 fun a0_32 l0 => (takeS 102 l0 fun a0_33z a0_33 l0 => (takeS 47 l0 fun a0_34z a0_34 l0 => (takeI l0 fun a0_35 l0 => (takeI l0 fun a0_36 l0 => (takeN 5 l0 fun a0_37z a0_37 l0 => (takeN 5 l0 fun a0_38z a0_38 l0 => (takeS 22 l0 fun a0_39z a0_39 l0 => (takeI l0 fun a0_40 l0 => (takeI l0 fun a0_41 l0 => (takeI l0 fun a0_42 l0 => (takeN 5 l0 fun a0_43z a0_43 l0 => (takeS 22 l0 fun a0_44z a0_44 l0 => (takeE l0 ⟨impl_MsgText.f k a0_0 a0_1 a0_2 a0_3z a0_3 a0_4 a0_5z a0_5 a0_6 a0_7 a0_8z a0_8 a0_9z a0_9 a0_10z a0_10 a0_11 a0_12 a0_13 a0_14z a0_14 a0_15z a0_15 a0_16 a0_17 a0_18z a0_18 a0_19z a0_19 a0_20z a0_20 a0_21 a0_22 a0_23 a0_24z a0_24 a0_25z a0_25 a0_26 a0_27 a0_28z a0_28 a0_29z a0_29 a0_30z a0_30 a0_31z a0_31 a0_32 a0_33z a0_33 a0_34z a0_34 a0_35 a0_36 a0_37z a0_37 a0_38z a0_38 a0_39z a0_39 a0_40 a0_41 a0_42 a0_43z a0_43 a0_44z a0_44, impl_MsgText.enc⟩))))))))))))))))))))))))))))))))))))))))))))))
  | _ => Ans.no
def impl_MsgText.Cs (k : Nat) : CallSem := tab [(30, impl_VoteText.ans k), (31, impl_QcText.ans k), (32, impl_HeadText.ans k), (33, impl_BlockText.ans k), (34, impl_TcText.ans k), (35, impl_ProofText.ans k), (36, impl_InclText.ans k)]
def impl_MsgText.cuts : List (Nat × Keep) := []
theorem impl_MsgText.s (k : Nat) (a0_0 : Int) (a0_1 : Int) (a0_2 : Int) (a0_3z : Bool) (a0_3 : List Int) (a0_4 : Int) (a0_5z : Bool) (a0_5 : List Int) (a0_6 : Int) (a0_7 : Int) (a0_8z : Bool) (a0_8 : List Int) (a0_9z : Bool) (a0_9 : List Int) (a0_10z : Bool) (a0_10 : List T) (a0_11 : Int) (a0_12 : Int) (a0_13 : Int) (a0_14z : Bool) (a0_14 : List Int) (a0_15z : Bool) (a0_15 : List Int) (a0_16 : Int) (a0_17 : Int) (a0_18z : Bool) (a0_18 : List Int) (a0_19z : Bool) (a0_19 : List Int) (a0_20z : Bool) (a0_20 : List T) (a0_21 : Int) (a0_22 : Int) (a0_23 : Int) (a0_24z : Bool) (a0_24 : List Int) (a0_25z : Bool) (a0_25 : List Int) (a0_26 : Int) (a0_27 : Int) (a0_28z : Bool) (a0_28 : List Int) (a0_29z : Bool) (a0_29 : List Int) (a0_30z : Bool) (a0_30 : List T) (a0_31z : Bool) (a0_31 : List T) (a0_32 : Int) (a0_33z : Bool) (a0_33 : List T) (a0_34z : Bool) (a0_34 : List T) (a0_35 : Int) (a0_36 : Int) (a0_37z : Bool) (a0_37 : List Int) (a0_38z : Bool) (a0_38 : List Int) (a0_39z : Bool) (a0_39 : List T) (a0_40 : Int) (a0_41 : Int) (a0_42 : Int) (a0_43z : Bool) (a0_43 : List Int) (a0_44z : Bool) (a0_44 : List T) : answer Tryz.prog impl_MsgText.Cs 100000 impl_MsgText.cuts [] Tryz.f7 (k + 1) [.v (.agg ((.int .i64 a0_0) :: (.int .i64 a0_1) :: (.int .i64 a0_2) :: (.nums 5 .u8 a0_3z a0_3) :: (.int .i64 a0_4) :: (.nums 5 .u8 a0_5z a0_5) :: (.int .i64 a0_6) :: (.int .i64 a0_7) :: (.nums 5 .u8 a0_8z a0_8) :: (.nums 5 .u8 a0_9z a0_9) :: (.sl 22 a0_10z a0_10) :: (.int .i64 a0_11) :: (.int .i64 a0_12) :: (.int .i64 a0_13) :: (.nums 5 .u8 a0_14z a0_14) :: (.nums 5 .u8 a0_15z a0_15) :: (.int .i64 a0_16) :: (.int .i64 a0_17) :: (.nums 5 .u8 a0_18z a0_18) :: (.nums 5 .u8 a0_19z a0_19) :: (.sl 22 a0_20z a0_20) :: (.int .i64 a0_21) :: (.int .i64 a0_22) :: (.int .i64 a0_23) :: (.nums 5 .u8 a0_24z a0_24) :: (.nums 5 .u8 a0_25z a0_25) :: (.int .i64 a0_26) :: (.int .i64 a0_27) :: (.nums 5 .u8 a0_28z a0_28) :: (.nums 5 .u8 a0_29z a0_29) :: (.sl 22 a0_30z a0_30) :: (.sl 22 a0_31z a0_31) :: (.int .i64 a0_32) :: (.sl 102 a0_33z a0_33) :: (.sl 47 a0_34z a0_34) :: (.int .i64 a0_35) :: (.int .i64 a0_36) :: (.nums 5 .u8 a0_37z a0_37) :: (.nums 5 .u8 a0_38z a0_38) :: (.sl 22 a0_39z a0_39) :: (.int .i64 a0_40) :: (.int .i64 a0_41) :: (.int .i64 a0_42) :: (.nums 5 .u8 a0_43z a0_43) :: (.sl 22 a0_44z a0_44) :: []))] = impl_MsgText.b (fun r => some (impl_MsgText.enc r)) k a0_0 a0_1 a0_2 a0_3z a0_3 a0_4 a0_5z a0_5 a0_6 a0_7 a0_8z a0_8 a0_9z a0_9 a0_10z a0_10 a0_11 a0_12 a0_13 a0_14z a0_14 a0_15z a0_15 a0_16 a0_17 a0_18z a0_18 a0_19z a0_19 a0_20z a0_20 a0_21 a0_22 a0_23 a0_24z a0_24 a0_25z a0_25 a0_26 a0_27 a0_28z a0_28 a0_29z a0_29 a0_30z a0_30 a0_31z a0_31 a0_32 a0_33z a0_33 a0_34z a0_34 a0_35 a0_36 a0_37z a0_37 a0_38z a0_38 a0_39z a0_39 a0_40 a0_41 a0_42 a0_43z a0_43 a0_44z a0_44 := by kernel_rfl
theorem impl_MsgText.b_nat {R R' : Type} (e : R → R') (ret : ByteArray → Option R) (k : Nat) (a0_0 : Int) (a0_1 : Int) (a0_2 : Int) (a0_3z : Bool) (a0_3 : List Int) (a0_4 : Int) (a0_5z : Bool) (a0_5 : List Int) (a0_6 : Int) (a0_7 : Int) (a0_8z : Bool) (a0_8 : List Int) (a0_9z : Bool) (a0_9 : List Int) (a0_10z : Bool) (a0_10 : List T) (a0_11 : Int) (a0_12 : Int) (a0_13 : Int) (a0_14z : Bool) (a0_14 : List Int) (a0_15z : Bool) (a0_15 : List Int) (a0_16 : Int) (a0_17 : Int) (a0_18z : Bool) (a0_18 : List Int) (a0_19z : Bool) (a0_19 : List Int) (a0_20z : Bool) (a0_20 : List T) (a0_21 : Int) (a0_22 : Int) (a0_23 : Int) (a0_24z : Bool) (a0_24 : List Int) (a0_25z : Bool) (a0_25 : List Int) (a0_26 : Int) (a0_27 : Int) (a0_28z : Bool) (a0_28 : List Int) (a0_29z : Bool) (a0_29 : List Int) (a0_30z : Bool) (a0_30 : List T) (a0_31z : Bool) (a0_31 : List T) (a0_32 : Int) (a0_33z : Bool) (a0_33 : List T) (a0_34z : Bool) (a0_34 : List T) (a0_35 : Int) (a0_36 : Int) (a0_37z : Bool) (a0_37 : List Int) (a0_38z : Bool) (a0_38 : List Int) (a0_39z : Bool) (a0_39 : List T) (a0_40 : Int) (a0_41 : Int) (a0_42 : Int) (a0_43z : Bool) (a0_43 : List Int) (a0_44z : Bool) (a0_44 : List T) : impl_MsgText.b (fun r => (ret r).map e) k a0_0 a0_1 a0_2 a0_3z a0_3 a0_4 a0_5z a0_5 a0_6 a0_7 a0_8z a0_8 a0_9z a0_9 a0_10z a0_10 a0_11 a0_12 a0_13 a0_14z a0_14 a0_15z a0_15 a0_16 a0_17 a0_18z a0_18 a0_19z a0_19 a0_20z a0_20 a0_21 a0_22 a0_23 a0_24z a0_24 a0_25z a0_25 a0_26 a0_27 a0_28z a0_28 a0_29z a0_29 a0_30z a0_30 a0_31z a0_31 a0_32 a0_33z a0_33 a0_34z a0_34 a0_35 a0_36 a0_37z a0_37 a0_38z a0_38 a0_39z a0_39 a0_40 a0_41 a0_42 a0_43z a0_43 a0_44z a0_44 = (impl_MsgText.b ret k a0_0 a0_1 a0_2 a0_3z a0_3 a0_4 a0_5z a0_5 a0_6 a0_7 a0_8z a0_8 a0_9z a0_9 a0_10z a0_10 a0_11 a0_12 a0_13 a0_14z a0_14 a0_15z a0_15 a0_16 a0_17 a0_18z a0_18 a0_19z a0_19 a0_20z a0_20 a0_21 a0_22 a0_23 a0_24z a0_24 a0_25z a0_25 a0_26 a0_27 a0_28z a0_28 a0_29z a0_29 a0_30z a0_30 a0_31z a0_31 a0_32 a0_33z a0_33 a0_34z a0_34 a0_35 a0_36 a0_37z a0_37 a0_38z a0_38 a0_39z a0_39 a0_40 a0_41 a0_42 a0_43z a0_43 a0_44z a0_44).map e := by
  unfold impl_MsgText.b
  repeat' first | with_reducible refine nat_cond ?_ ?_ | with_reducible refine nat_bind fun _ => ?_ | rfl
theorem impl_MsgText.eq (k : Nat) (a0_0 : Int) (a0_1 : Int) (a0_2 : Int) (a0_3z : Bool) (a0_3 : List Int) (a0_4 : Int) (a0_5z : Bool) (a0_5 : List Int) (a0_6 : Int) (a0_7 : Int) (a0_8z : Bool) (a0_8 : List Int) (a0_9z : Bool) (a0_9 : List Int) (a0_10z : Bool) (a0_10 : List T) (a0_11 : Int) (a0_12 : Int) (a0_13 : Int) (a0_14z : Bool) (a0_14 : List Int) (a0_15z : Bool) (a0_15 : List Int) (a0_16 : Int) (a0_17 : Int) (a0_18z : Bool) (a0_18 : List Int) (a0_19z : Bool) (a0_19 : List Int) (a0_20z : Bool) (a0_20 : List T) (a0_21 : Int) (a0_22 : Int) (a0_23 : Int) (a0_24z : Bool) (a0_24 : List Int) (a0_25z : Bool) (a0_25 : List Int) (a0_26 : Int) (a0_27 : Int) (a0_28z : Bool) (a0_28 : List Int) (a0_29z : Bool) (a0_29 : List Int) (a0_30z : Bool) (a0_30 : List T) (a0_31z : Bool) (a0_31 : List T) (a0_32 : Int) (a0_33z : Bool) (a0_33 : List T) (a0_34z : Bool) (a0_34 : List T) (a0_35 : Int) (a0_36 : Int) (a0_37z : Bool) (a0_37 : List Int) (a0_38z : Bool) (a0_38 : List Int) (a0_39z : Bool) (a0_39 : List T) (a0_40 : Int) (a0_41 : Int) (a0_42 : Int) (a0_43z : Bool) (a0_43 : List Int) (a0_44z : Bool) (a0_44 : List T) : answer Tryz.prog impl_MsgText.Cs 100000 impl_MsgText.cuts [] Tryz.f7 (k + 1) [.v (.agg ((.int .i64 a0_0) :: (.int .i64 a0_1) :: (.int .i64 a0_2) :: (.nums 5 .u8 a0_3z a0_3) :: (.int .i64 a0_4) :: (.nums 5 .u8 a0_5z a0_5) :: (.int .i64 a0_6) :: (.int .i64 a0_7) :: (.nums 5 .u8 a0_8z a0_8) :: (.nums 5 .u8 a0_9z a0_9) :: (.sl 22 a0_10z a0_10) :: (.int .i64 a0_11) :: (.int .i64 a0_12) :: (.int .i64 a0_13) :: (.nums 5 .u8 a0_14z a0_14) :: (.nums 5 .u8 a0_15z a0_15) :: (.int .i64 a0_16) :: (.int .i64 a0_17) :: (.nums 5 .u8 a0_18z a0_18) :: (.nums 5 .u8 a0_19z a0_19) :: (.sl 22 a0_20z a0_20) :: (.int .i64 a0_21) :: (.int .i64 a0_22) :: (.int .i64 a0_23) :: (.nums 5 .u8 a0_24z a0_24) :: (.nums 5 .u8 a0_25z a0_25) :: (.int .i64 a0_26) :: (.int .i64 a0_27) :: (.nums 5 .u8 a0_28z a0_28) :: (.nums 5 .u8 a0_29z a0_29) :: (.sl 22 a0_30z a0_30) :: (.sl 22 a0_31z a0_31) :: (.int .i64 a0_32) :: (.sl 102 a0_33z a0_33) :: (.sl 47 a0_34z a0_34) :: (.int .i64 a0_35) :: (.int .i64 a0_36) :: (.nums 5 .u8 a0_37z a0_37) :: (.nums 5 .u8 a0_38z a0_38) :: (.sl 22 a0_39z a0_39) :: (.int .i64 a0_40) :: (.int .i64 a0_41) :: (.int .i64 a0_42) :: (.nums 5 .u8 a0_43z a0_43) :: (.sl 22 a0_44z a0_44) :: []))] = (impl_MsgText.f (k + 1) a0_0 a0_1 a0_2 a0_3z a0_3 a0_4 a0_5z a0_5 a0_6 a0_7 a0_8z a0_8 a0_9z a0_9 a0_10z a0_10 a0_11 a0_12 a0_13 a0_14z a0_14 a0_15z a0_15 a0_16 a0_17 a0_18z a0_18 a0_19z a0_19 a0_20z a0_20 a0_21 a0_22 a0_23 a0_24z a0_24 a0_25z a0_25 a0_26 a0_27 a0_28z a0_28 a0_29z a0_29 a0_30z a0_30 a0_31z a0_31 a0_32 a0_33z a0_33 a0_34z a0_34 a0_35 a0_36 a0_37z a0_37 a0_38z a0_38 a0_39z a0_39 a0_40 a0_41 a0_42 a0_43z a0_43 a0_44z a0_44).map impl_MsgText.enc := by
  refine (impl_MsgText.s k a0_0 a0_1 a0_2 a0_3z a0_3 a0_4 a0_5z a0_5 a0_6 a0_7 a0_8z a0_8 a0_9z a0_9 a0_10z a0_10 a0_11 a0_12 a0_13 a0_14z a0_14 a0_15z a0_15 a0_16 a0_17 a0_18z a0_18 a0_19z a0_19 a0_20z a0_20 a0_21 a0_22 a0_23 a0_24z a0_24 a0_25z a0_25 a0_26 a0_27 a0_28z a0_28 a0_29z a0_29 a0_30z a0_30 a0_31z a0_31 a0_32 a0_33z a0_33 a0_34z a0_34 a0_35 a0_36 a0_37z a0_37 a0_38z a0_38 a0_39z a0_39 a0_40 a0_41 a0_42 a0_43z a0_43 a0_44z a0_44).trans (Eq.trans ?_ (impl_MsgText.b_nat impl_MsgText.enc some k a0_0 a0_1 a0_2 a0_3z a0_3 a0_4 a0_5z a0_5 a0_6 a0_7 a0_8z a0_8 a0_9z a0_9 a0_10z a0_10 a0_11 a0_12 a0_13 a0_14z a0_14 a0_15z a0_15 a0_16 a0_17 a0_18z a0_18 a0_19z a0_19 a0_20z a0_20 a0_21 a0_22 a0_23 a0_24z a0_24 a0_25z a0_25 a0_26 a0_27 a0_28z a0_28 a0_29z a0_29 a0_30z a0_30 a0_31z a0_31 a0_32 a0_33z a0_33 a0_34z a0_34 a0_35 a0_36 a0_37z a0_37 a0_38z a0_38 a0_39z a0_39 a0_40 a0_41 a0_42 a0_43z a0_43 a0_44z a0_44))
  simp only [Option.map_some]
theorem impl_MsgText.sound (k : Nat) : SoundF Tryz.prog 7 (fun a => (impl_MsgText.ans k a).val) := by
  refine sound_plain (fun args res h => ?_) (fun t n => rfl)
  unfold impl_MsgText.ans at h
  dsimp only at h
  split at h
  ·
    obtain ⟨_, _, e, g⟩ := takeI_val h; clear h; subst e; have h := g; clear g
    obtain ⟨_, _, e, g⟩ := takeI_val h; clear h; subst e; have h := g; clear g
    obtain ⟨_, _, e, g⟩ := takeI_val h; clear h; subst e; have h := g; clear g
    obtain ⟨_, _, _, e, g⟩ := takeN_val h; clear h; subst e; have h := g; clear g
    obtain ⟨_, _, e, g⟩ := takeI_val h; clear h; subst e; have h := g; clear g
    obtain ⟨_, _, _, e, g⟩ := takeN_val h; clear h; subst e; have h := g; clear g
    obtain ⟨_, _, e, g⟩ := takeI_val h; clear h; subst e; have h := g; clear g
    obtain ⟨_, _, e, g⟩ := takeI_val h; clear h; subst e; have h := g; clear g
    obtain ⟨_, _, _, e, g⟩ := takeN_val h; clear h; subst e; have h := g; clear g
    obtain ⟨_, _, _, e, g⟩ := takeN_val h; clear h; subst e; have h := g; clear g
    obtain ⟨_, _, _, e, g⟩ := takeS_val h; clear h; subst e; have h := g; clear g
    obtain ⟨_, _, e, g⟩ := takeI_val h; clear h; subst e; have h := g; clear g
    obtain ⟨_, _, e, g⟩ := takeI_val h; clear h; subst e; have h := g; clear g
    obtain ⟨_, _, e, g⟩ := takeI_val h; clear h; subst e; have h := g; clear g
    obtain ⟨_, _, _, e, g⟩ := takeN_val h; clear h; subst e; have h := g; clear g
    obtain ⟨_, _, _, e, g⟩ := takeN_val h; clear h; subst e; have h := g; clear g
    obtain ⟨_, _, e, g⟩ := takeI_val h; clear h; subst e; have h := g; clear g
    obtain ⟨_, _, e, g⟩ := takeI_val h; clear h; subst e; have h := g; clear g
    obtain ⟨_, _, _, e, g⟩ := takeN_val h; clear h; subst e; have h := g; clear g
    obtain ⟨_, _, _, e, g⟩ := takeN_val h; clear h; subst e; have h := g; clear g
    obtain ⟨_, _, _, e, g⟩ := takeS_val h; clear h; subst e; have h := g; clear g
    obtain ⟨_, _, e, g⟩ := takeI_val h; clear h; subst e; have h := g; clear g
    obtain ⟨_, _, e, g⟩ := takeI_val h; clear h; subst e; have h := g; clear g
    obtain ⟨_, _, e, g⟩ := takeI_val h; clear h; subst e; have h := g; clear g
    obtain ⟨_, _, _, e, g⟩ := takeN_val h; clear h; subst e; have h := g; clear g
    obtain ⟨_, _, _, e, g⟩ := takeN_val h; clear h; subst e; have h := g; clear g
    obtain ⟨_, _, e, g⟩ := takeI_val h; clear h; subst e; have h := g; clear g
    obtain ⟨_, _, e, g⟩ := takeI_val h; clear h; subst e; have h := g; clear g
    obtain ⟨_, _, _, e, g⟩ := takeN_val h; clear h; subst e; have h := g; clear g
    obtain ⟨_, _, _, e, g⟩ := takeN_val h; clear h; subst e; have h := g; clear g
    obtain ⟨_, _, _, e, g⟩ := takeS_val h; clear h; subst e; have h := g; clear g
    obtain ⟨_, _, _, e, g⟩ := takeS_val h; clear h; subst e; have h := g; clear g
    obtain ⟨_, _, e, g⟩ := takeI_val h; clear h; subst e; have h := g; clear g
    obtain ⟨_, _, _, e, g⟩ := takeS_val h; clear h; subst e; have h := g; clear g
    obtain ⟨_, _, _, e, g⟩ := takeS_val h; clear h; subst e; have h := g; clear g
    obtain ⟨_, _, e, g⟩ := takeI_val h; clear h; subst e; have h := g; clear g
    obtain ⟨_, _, e, g⟩ := takeI_val h; clear h; subst e; have h := g; clear g
    obtain ⟨_, _, _, e, g⟩ := takeN_val h; clear h; subst e; have h := g; clear g
    obtain ⟨_, _, _, e, g⟩ := takeN_val h; clear h; subst e; have h := g; clear g
    obtain ⟨_, _, _, e, g⟩ := takeS_val h; clear h; subst e; have h := g; clear g
    obtain ⟨_, _, e, g⟩ := takeI_val h; clear h; subst e; have h := g; clear g
    obtain ⟨_, _, e, g⟩ := takeI_val h; clear h; subst e; have h := g; clear g
    obtain ⟨_, _, e, g⟩ := takeI_val h; clear h; subst e; have h := g; clear g
    obtain ⟨_, _, _, e, g⟩ := takeN_val h; clear h; subst e; have h := g; clear g
    obtain ⟨_, _, _, e, g⟩ := takeS_val h; clear h; subst e; have h := g; clear g
    obtain ⟨e, g⟩ := takeE_val h; clear h; subst e; have h := g; clear g
    cases k with
    | zero => cases h
    | succ k =>
      unfold Ans.val at h
      rw [← impl_MsgText.eq] at h
      exact answer_sound mixed Tryz.func7 _ _ _ (k + 1) (fun j _ => tab_sound (tab_cons (impl_VoteText.sound j) (tab_cons (impl_QcText.sound j) (tab_cons (impl_HeadText.sound j) (tab_cons (impl_BlockText.sound j) (tab_cons (impl_TcText.sound j) (tab_cons (impl_ProofText.sound j) (tab_cons (impl_InclText.sound j) (tab_nil))))))))) _ _ h
  · exact (Ans.no_val h).elim

/-! loop.example/g00790/laws.eqByteS -/
def laws_eqByteS.b {R : Type} (ret : Bool → Option R) (j0 : Bool → (List Int) → Bool → (List Int) → Int → Option R) (k : Nat) (a0z : Bool) (a0 : List Int) (a1z : Bool) (a1 : List Int) : Option R :=
  cond (!(decide (((a0).length : Int) = ((a1).length : Int)))) (ret false) (j0 a0z a0 a1z a1 0)
def laws_eqByteS.l0b {R : Type} (ret : Bool → Option R) (j0 : Bool → (List Int) → Bool → (List Int) → Int → Option R) (k : Nat) (x0z : Bool) (x0 : List Int) (x1z : Bool) (x1 : List Int) (x5 : Int) : Option R :=
  cond (decide (x5 < ((x0).length : Int))) (cond (decide ((0 : Int) ≤ x5)) (cond (decide (x5 < ((x0).length : Int))) (cond (decide ((0 : Int) ≤ x5)) (cond (decide (x5 < ((x1).length : Int))) (cond (!(decide ((rdI x0 x5) = (rdI x1 x5)))) (ret false) (j0 x0z x0 x1z x1 (RowKit.wrap64 (x5 + 1)))) (none)) (none)) (none)) (none)) (ret true)
def laws_eqByteS.l0 : Nat → Bool → (List Int) → Bool → (List Int) → Int → Option Bool
  | 0, _, _, _, _, _ => none
  | k + 1, x0z, x0, x1z, x1, x5 => laws_eqByteS.l0b some (laws_eqByteS.l0 k) k x0z x0 x1z x1 x5
def laws_eqByteS.f : Nat → Bool → (List Int) → Bool → (List Int) → Option Bool
  | 0, _, _, _, _ => none
  | k + 1, a0z, a0, a1z, a1 => laws_eqByteS.b some (laws_eqByteS.l0 k) k a0z a0 a1z a1
def laws_eqByteS.enc (r : Bool) : Res := ⟨[.vals false [((.bool r), true)]], []⟩
def laws_eqByteS.ans (k : Nat) : List Arg → Ans
  | [.v (.nums 5 .u8 a0z a0), .v (.nums 5 .u8 a1z a1)] => ⟨laws_eqByteS.f k a0z a0 a1z a1, laws_eqByteS.enc⟩
  | _ => Ans.no
def laws_eqByteS.Cs (k : Nat) : CallSem := tab []
def laws_eqByteS.cuts : List (Nat × Keep) := [(58, ⟨[(0, some []), (1, some []), (5, some [])], []⟩)]
noncomputable def laws_eqByteS.K0 : List Fr := framesAt [true, true, false, true, false] (bodyOf Tryz.f64 laws_eqByteS.cuts) []
def laws_eqByteS.N0 (x0z : Bool) (x0 : List Int) (x1z : Bool) (x1 : List Int) (x5 : Int) : St := stOf 26 26 2 [(0, .val ⟨(.nums 5 .u8 x0z x0), [], false, none⟩), (1, .val ⟨(.nums 5 .u8 x1z x1), [], false, none⟩), (5, .val (V.s (.int .i64 x5)))] []
theorem laws_eqByteS.s (k : Nat) (a0z : Bool) (a0 : List Int) (a1z : Bool) (a1 : List Int) : answer Tryz.prog laws_eqByteS.Cs 100000 laws_eqByteS.cuts [] Tryz.f64 (k + 1) [.v (.nums 5 .u8 a0z a0), .v (.nums 5 .u8 a1z a1)] = laws_eqByteS.b (fun r => some (laws_eqByteS.enc r)) (fun x0z x0 x1z x1 x5 => rounds Tryz.prog laws_eqByteS.Cs (finish Tryz.prog [] Tryz.f64 [.v (.nums 5 .u8 a0z a0), .v (.nums 5 .u8 a1z a1)]) 100000 k laws_eqByteS.K0 (laws_eqByteS.N0 x0z x0 x1z x1 x5)) k a0z a0 a1z a1 := by kernel_rfl
theorem laws_eqByteS.s0 (k : Nat) (G : List Fr → St → Option Res) (a0z : Bool) (a0 : List Int) (a1z : Bool) (a1 : List Int) (yx0z : Bool) (yx0 : List Int) (yx1z : Bool) (yx1 : List Int) (yx5 : Int) : resume Tryz.prog (laws_eqByteS.Cs k) G (finish Tryz.prog [] Tryz.f64 [.v (.nums 5 .u8 a0z a0), .v (.nums 5 .u8 a1z a1)]) 100000 laws_eqByteS.K0 (laws_eqByteS.N0 yx0z yx0 yx1z yx1 yx5) = laws_eqByteS.l0b (fun r => some (laws_eqByteS.enc r)) (fun x0z x0 x1z x1 x5 => G laws_eqByteS.K0 (laws_eqByteS.N0 x0z x0 x1z x1 x5)) k yx0z yx0 yx1z yx1 yx5 := by kernel_rfl
theorem laws_eqByteS.b_nat {R R' : Type} (e : R → R') (ret : Bool → Option R) (j0 : Bool → (List Int) → Bool → (List Int) → Int → Option R) (k : Nat) (a0z : Bool) (a0 : List Int) (a1z : Bool) (a1 : List Int) : laws_eqByteS.b (fun r => (ret r).map e) (fun x0z x0 x1z x1 x5 => (j0 x0z x0 x1z x1 x5).map e) k a0z a0 a1z a1 = (laws_eqByteS.b ret j0 k a0z a0 a1z a1).map e := by
  unfold laws_eqByteS.b
  repeat' first | with_reducible refine nat_cond ?_ ?_ | with_reducible refine nat_bind fun _ => ?_ | rfl
theorem laws_eqByteS.l0b_nat {R R' : Type} (e : R → R') (ret : Bool → Option R) (j0 : Bool → (List Int) → Bool → (List Int) → Int → Option R) (k : Nat) (x0z : Bool) (x0 : List Int) (x1z : Bool) (x1 : List Int) (x5 : Int) : laws_eqByteS.l0b (fun r => (ret r).map e) (fun x0z x0 x1z x1 x5 => (j0 x0z x0 x1z x1 x5).map e) k x0z x0 x1z x1 x5 = (laws_eqByteS.l0b ret j0 k x0z x0 x1z x1 x5).map e := by
  unfold laws_eqByteS.l0b
  repeat' first | with_reducible refine nat_cond ?_ ?_ | with_reducible refine nat_bind fun _ => ?_ | rfl
theorem laws_eqByteS.rounds_eq (a0z : Bool) (a0 : List Int) (a1z : Bool) (a1 : List Int) : ∀ k, (∀ (x0z : Bool) (x0 : List Int) (x1z : Bool) (x1 : List Int) (x5 : Int), rounds Tryz.prog laws_eqByteS.Cs (finish Tryz.prog [] Tryz.f64 [.v (.nums 5 .u8 a0z a0), .v (.nums 5 .u8 a1z a1)]) 100000 k laws_eqByteS.K0 (laws_eqByteS.N0 x0z x0 x1z x1 x5) = (laws_eqByteS.l0 k x0z x0 x1z x1 x5).map laws_eqByteS.enc)
  | 0 => fun _ _ _ _ _ => rfl
  | k + 1 => by
    have ih := laws_eqByteS.rounds_eq a0z a0 a1z a1 k
    refine fun _ _ _ _ _ => ?_
    · refine (laws_eqByteS.s0 k _ a0z a0 a1z a1 _ _ _ _ _).trans (Eq.trans ?_ (laws_eqByteS.l0b_nat laws_eqByteS.enc some (laws_eqByteS.l0 k) k _ _ _ _ _))
      simp only [ih, Option.map_some]
theorem laws_eqByteS.eq (k : Nat) (a0z : Bool) (a0 : List Int) (a1z : Bool) (a1 : List Int) : answer Tryz.prog laws_eqByteS.Cs 100000 laws_eqByteS.cuts [] Tryz.f64 (k + 1) [.v (.nums 5 .u8 a0z a0), .v (.nums 5 .u8 a1z a1)] = (laws_eqByteS.f (k + 1) a0z a0 a1z a1).map laws_eqByteS.enc := by
  have ih := laws_eqByteS.rounds_eq a0z a0 a1z a1 k
  refine (laws_eqByteS.s k a0z a0 a1z a1).trans (Eq.trans ?_ (laws_eqByteS.b_nat laws_eqByteS.enc some (laws_eqByteS.l0 k) k a0z a0 a1z a1))
  simp only [ih, Option.map_some]
theorem laws_eqByteS.sound (k : Nat) : SoundF Tryz.prog 64 (fun a => (laws_eqByteS.ans k a).val) := by
  refine sound_plain (fun args res h => ?_) (fun t n => rfl)
  unfold laws_eqByteS.ans at h
  dsimp only at h
  split at h
  · cases k with
    | zero => cases h
    | succ k =>
      unfold Ans.val at h
      rw [← laws_eqByteS.eq] at h
      exact answer_sound mixed Tryz.func64 _ _ _ (k + 1) (fun j _ => tab_sound (tab_nil)) _ _ h
  · exact (Ans.no_val h).elim

/-! loop.example/g00790/laws.eqVote -/
def laws_eqVote.b {R : Type} (ret : Bool → Option R) (k : Nat) (a0_0 : Int) (a0_1 : Int) (a0_2z : Bool) (a0_2 : List Int) (a0_3 : Int) (a0_4z : Bool) (a0_4 : List Int) (a1_0 : Int) (a1_1 : Int) (a1_2z : Bool) (a1_2 : List Int) (a1_3 : Int) (a1_4z : Bool) (a1_4 : List Int) : Option R :=
  cond (!(decide (a0_0 = a1_0))) (ret false) (cond (!(decide (a0_1 = a1_1))) (ret false) ((laws_eqByteS.f k a0_2z a0_2 a1_2z a1_2).bind fun t0 => cond (!t0) (ret false) (cond (!(decide (a0_3 = a1_3))) (ret false) ((laws_eqByteS.f k a0_4z a0_4 a1_4z a1_4).bind fun t1 => cond (!t1) (ret false) (ret true)))))
def laws_eqVote.f : Nat → Int → Int → Bool → (List Int) → Int → Bool → (List Int) → Int → Int → Bool → (List Int) → Int → Bool → (List Int) → Option Bool
  | 0, _, _, _, _, _, _, _, _, _, _, _, _, _, _ => none
  | k + 1, a0_0, a0_1, a0_2z, a0_2, a0_3, a0_4z, a0_4, a1_0, a1_1, a1_2z, a1_2, a1_3, a1_4z, a1_4 => laws_eqVote.b some k a0_0 a0_1 a0_2z a0_2 a0_3 a0_4z a0_4 a1_0 a1_1 a1_2z a1_2 a1_3 a1_4z a1_4
def laws_eqVote.enc (r : Bool) : Res := ⟨[.vals false [((.bool r), true)]], []⟩
def laws_eqVote.ans (k : Nat) : List Arg → Ans
  | [.v (.agg [(.int .i64 a0_0), (.int .i64 a0_1), (.nums 5 .u8 a0_2z a0_2), (.int .i64 a0_3), (.nums 5 .u8 a0_4z a0_4)]), .v (.agg [(.int .i64 a1_0), (.int .i64 a1_1), (.nums 5 .u8 a1_2z a1_2), (.int .i64 a1_3), (.nums 5 .u8 a1_4z a1_4)])] => ⟨laws_eqVote.f k a0_0 a0_1 a0_2z a0_2 a0_3 a0_4z a0_4 a1_0 a1_1 a1_2z a1_2 a1_3 a1_4z a1_4, laws_eqVote.enc⟩
  | _ => Ans.no
def laws_eqVote.Cs (k : Nat) : CallSem := tab [(64, laws_eqByteS.ans k)]
def laws_eqVote.cuts : List (Nat × Keep) := []
theorem laws_eqVote.s (k : Nat) (a0_0 : Int) (a0_1 : Int) (a0_2z : Bool) (a0_2 : List Int) (a0_3 : Int) (a0_4z : Bool) (a0_4 : List Int) (a1_0 : Int) (a1_1 : Int) (a1_2z : Bool) (a1_2 : List Int) (a1_3 : Int) (a1_4z : Bool) (a1_4 : List Int) : answer Tryz.prog laws_eqVote.Cs 100000 laws_eqVote.cuts [] Tryz.f37 (k + 1) [.v (.agg [(.int .i64 a0_0), (.int .i64 a0_1), (.nums 5 .u8 a0_2z a0_2), (.int .i64 a0_3), (.nums 5 .u8 a0_4z a0_4)]), .v (.agg [(.int .i64 a1_0), (.int .i64 a1_1), (.nums 5 .u8 a1_2z a1_2), (.int .i64 a1_3), (.nums 5 .u8 a1_4z a1_4)])] = laws_eqVote.b (fun r => some (laws_eqVote.enc r)) k a0_0 a0_1 a0_2z a0_2 a0_3 a0_4z a0_4 a1_0 a1_1 a1_2z a1_2 a1_3 a1_4z a1_4 := by kernel_rfl
theorem laws_eqVote.b_nat {R R' : Type} (e : R → R') (ret : Bool → Option R) (k : Nat) (a0_0 : Int) (a0_1 : Int) (a0_2z : Bool) (a0_2 : List Int) (a0_3 : Int) (a0_4z : Bool) (a0_4 : List Int) (a1_0 : Int) (a1_1 : Int) (a1_2z : Bool) (a1_2 : List Int) (a1_3 : Int) (a1_4z : Bool) (a1_4 : List Int) : laws_eqVote.b (fun r => (ret r).map e) k a0_0 a0_1 a0_2z a0_2 a0_3 a0_4z a0_4 a1_0 a1_1 a1_2z a1_2 a1_3 a1_4z a1_4 = (laws_eqVote.b ret k a0_0 a0_1 a0_2z a0_2 a0_3 a0_4z a0_4 a1_0 a1_1 a1_2z a1_2 a1_3 a1_4z a1_4).map e := by
  unfold laws_eqVote.b
  repeat' first | with_reducible refine nat_cond ?_ ?_ | with_reducible refine nat_bind fun _ => ?_ | rfl
theorem laws_eqVote.eq (k : Nat) (a0_0 : Int) (a0_1 : Int) (a0_2z : Bool) (a0_2 : List Int) (a0_3 : Int) (a0_4z : Bool) (a0_4 : List Int) (a1_0 : Int) (a1_1 : Int) (a1_2z : Bool) (a1_2 : List Int) (a1_3 : Int) (a1_4z : Bool) (a1_4 : List Int) : answer Tryz.prog laws_eqVote.Cs 100000 laws_eqVote.cuts [] Tryz.f37 (k + 1) [.v (.agg [(.int .i64 a0_0), (.int .i64 a0_1), (.nums 5 .u8 a0_2z a0_2), (.int .i64 a0_3), (.nums 5 .u8 a0_4z a0_4)]), .v (.agg [(.int .i64 a1_0), (.int .i64 a1_1), (.nums 5 .u8 a1_2z a1_2), (.int .i64 a1_3), (.nums 5 .u8 a1_4z a1_4)])] = (laws_eqVote.f (k + 1) a0_0 a0_1 a0_2z a0_2 a0_3 a0_4z a0_4 a1_0 a1_1 a1_2z a1_2 a1_3 a1_4z a1_4).map laws_eqVote.enc := by
  refine (laws_eqVote.s k a0_0 a0_1 a0_2z a0_2 a0_3 a0_4z a0_4 a1_0 a1_1 a1_2z a1_2 a1_3 a1_4z a1_4).trans (Eq.trans ?_ (laws_eqVote.b_nat laws_eqVote.enc some k a0_0 a0_1 a0_2z a0_2 a0_3 a0_4z a0_4 a1_0 a1_1 a1_2z a1_2 a1_3 a1_4z a1_4))
  simp only [Option.map_some]
theorem laws_eqVote.sound (k : Nat) : SoundF Tryz.prog 37 (fun a => (laws_eqVote.ans k a).val) := by
  refine sound_plain (fun args res h => ?_) (fun t n => rfl)
  unfold laws_eqVote.ans at h
  dsimp only at h
  split at h
  · cases k with
    | zero => cases h
    | succ k =>
      unfold Ans.val at h
      rw [← laws_eqVote.eq] at h
      exact answer_sound mixed Tryz.func37 _ _ _ (k + 1) (fun j _ => tab_sound (tab_cons (laws_eqByteS.sound j) (tab_nil))) _ _ h
  · exact (Ans.no_val h).elim

/-! loop.example/g00790/laws.eqByteSS -/
def laws_eqByteSS.b {R : Type} (ret : Bool → Option R) (j0 : Bool → (List T) → Bool → (List T) → Int → Option R) (k : Nat) (a0z : Bool) (a0 : List T) (a1z : Bool) (a1 : List T) : Option R :=
  cond (!(decide (((a0).length : Int) = ((a1).length : Int)))) (ret false) (j0 a0z a0 a1z a1 0)
def laws_eqByteSS.l0b {R : Type} (ret : Bool → Option R) (j0 : Bool → (List T) → Bool → (List T) → Int → Option R) (k : Nat) (x0z : Bool) (x0 : List T) (x1z : Bool) (x1 : List T) (x5 : Int) : Option R :=
  cond (decide (x5 < ((x0).length : Int))) (cond (decide ((0 : Int) ≤ x5)) (cond (decide (x5 < ((x0).length : Int))) (cond (decide ((0 : Int) ≤ x5)) (cond (decide (x5 < ((x1).length : Int))) ((laws_eqByteS.f k (((((x0).getD (x5).toNat .bad).cells.getD 0 .bad)).isNil) (((((x0).getD (x5).toNat .bad).cells.getD 0 .bad)).toNums) (((((x1).getD (x5).toNat .bad).cells.getD 0 .bad)).isNil) (((((x1).getD (x5).toNat .bad).cells.getD 0 .bad)).toNums)).bind fun t0 => cond (!t0) (ret false) (j0 x0z x0 x1z x1 (RowKit.wrap64 (x5 + 1)))) (none)) (none)) (none)) (none)) (ret true)
def laws_eqByteSS.l0 : Nat → Bool → (List T) → Bool → (List T) → Int → Option Bool
  | 0, _, _, _, _, _ => none
  | k + 1, x0z, x0, x1z, x1, x5 => laws_eqByteSS.l0b some (laws_eqByteSS.l0 k) k x0z x0 x1z x1 x5
def laws_eqByteSS.f : Nat → Bool → (List T) → Bool → (List T) → Option Bool
  | 0, _, _, _, _ => none
  | k + 1, a0z, a0, a1z, a1 => laws_eqByteSS.b some (laws_eqByteSS.l0 k) k a0z a0 a1z a1
def laws_eqByteSS.enc (r : Bool) : Res := ⟨[.vals false [((.bool r), true)]], []⟩
def laws_eqByteSS.ans (k : Nat) : List Arg → Ans
  | [.v (.sl 22 a0z a0), .v (.sl 22 a1z a1)] => ⟨laws_eqByteSS.f k a0z a0 a1z a1, laws_eqByteSS.enc⟩
  | _ => Ans.no
def laws_eqByteSS.Cs (k : Nat) : CallSem := tab [(64, laws_eqByteS.ans k)]
def laws_eqByteSS.cuts : List (Nat × Keep) := [(58, ⟨[(0, some []), (1, some []), (5, some [])], []⟩)]
noncomputable def laws_eqByteSS.K0 : List Fr := framesAt [true, true, false, true, false] (bodyOf Tryz.f65 laws_eqByteSS.cuts) []
def laws_eqByteSS.N0 (x0z : Bool) (x0 : List T) (x1z : Bool) (x1 : List T) (x5 : Int) : St := stOf 27 27 2 [(0, .val ⟨(.sl 22 x0z x0), [], false, none⟩), (1, .val ⟨(.sl 22 x1z x1), [], false, none⟩), (5, .val (V.s (.int .i64 x5)))] []
theorem laws_eqByteSS.s (k : Nat) (a0z : Bool) (a0 : List T) (a1z : Bool) (a1 : List T) : answer Tryz.prog laws_eqByteSS.Cs 100000 laws_eqByteSS.cuts [] Tryz.f65 (k + 1) [.v (.sl 22 a0z a0), .v (.sl 22 a1z a1)] = laws_eqByteSS.b (fun r => some (laws_eqByteSS.enc r)) (fun x0z x0 x1z x1 x5 => rounds Tryz.prog laws_eqByteSS.Cs (finish Tryz.prog [] Tryz.f65 [.v (.sl 22 a0z a0), .v (.sl 22 a1z a1)]) 100000 k laws_eqByteSS.K0 (laws_eqByteSS.N0 x0z x0 x1z x1 x5)) k a0z a0 a1z a1 := by kernel_rfl
theorem laws_eqByteSS.s0 (k : Nat) (G : List Fr → St → Option Res) (a0z : Bool) (a0 : List T) (a1z : Bool) (a1 : List T) (yx0z : Bool) (yx0 : List T) (yx1z : Bool) (yx1 : List T) (yx5 : Int) : resume Tryz.prog (laws_eqByteSS.Cs k) G (finish Tryz.prog [] Tryz.f65 [.v (.sl 22 a0z a0), .v (.sl 22 a1z a1)]) 100000 laws_eqByteSS.K0 (laws_eqByteSS.N0 yx0z yx0 yx1z yx1 yx5) = laws_eqByteSS.l0b (fun r => some (laws_eqByteSS.enc r)) (fun x0z x0 x1z x1 x5 => G laws_eqByteSS.K0 (laws_eqByteSS.N0 x0z x0 x1z x1 x5)) k yx0z yx0 yx1z yx1 yx5 := by kernel_rfl
theorem laws_eqByteSS.b_nat {R R' : Type} (e : R → R') (ret : Bool → Option R) (j0 : Bool → (List T) → Bool → (List T) → Int → Option R) (k : Nat) (a0z : Bool) (a0 : List T) (a1z : Bool) (a1 : List T) : laws_eqByteSS.b (fun r => (ret r).map e) (fun x0z x0 x1z x1 x5 => (j0 x0z x0 x1z x1 x5).map e) k a0z a0 a1z a1 = (laws_eqByteSS.b ret j0 k a0z a0 a1z a1).map e := by
  unfold laws_eqByteSS.b
  repeat' first | with_reducible refine nat_cond ?_ ?_ | with_reducible refine nat_bind fun _ => ?_ | rfl
theorem laws_eqByteSS.l0b_nat {R R' : Type} (e : R → R') (ret : Bool → Option R) (j0 : Bool → (List T) → Bool → (List T) → Int → Option R) (k : Nat) (x0z : Bool) (x0 : List T) (x1z : Bool) (x1 : List T) (x5 : Int) : laws_eqByteSS.l0b (fun r => (ret r).map e) (fun x0z x0 x1z x1 x5 => (j0 x0z x0 x1z x1 x5).map e) k x0z x0 x1z x1 x5 = (laws_eqByteSS.l0b ret j0 k x0z x0 x1z x1 x5).map e := by
  unfold laws_eqByteSS.l0b
  repeat' first | with_reducible refine nat_cond ?_ ?_ | with_reducible refine nat_bind fun _ => ?_ | rfl
theorem laws_eqByteSS.rounds_eq (a0z : Bool) (a0 : List T) (a1z : Bool) (a1 : List T) : ∀ k, (∀ (x0z : Bool) (x0 : List T) (x1z : Bool) (x1 : List T) (x5 : Int), rounds Tryz.prog laws_eqByteSS.Cs (finish Tryz.prog [] Tryz.f65 [.v (.sl 22 a0z a0), .v (.sl 22 a1z a1)]) 100000 k laws_eqByteSS.K0 (laws_eqByteSS.N0 x0z x0 x1z x1 x5) = (laws_eqByteSS.l0 k x0z x0 x1z x1 x5).map laws_eqByteSS.enc)
  | 0 => fun _ _ _ _ _ => rfl
  | k + 1 => by
    have ih := laws_eqByteSS.rounds_eq a0z a0 a1z a1 k
    refine fun _ _ _ _ _ => ?_
    · refine (laws_eqByteSS.s0 k _ a0z a0 a1z a1 _ _ _ _ _).trans (Eq.trans ?_ (laws_eqByteSS.l0b_nat laws_eqByteSS.enc some (laws_eqByteSS.l0 k) k _ _ _ _ _))
      simp only [ih, Option.map_some]
theorem laws_eqByteSS.eq (k : Nat) (a0z : Bool) (a0 : List T) (a1z : Bool) (a1 : List T) : answer Tryz.prog laws_eqByteSS.Cs 100000 laws_eqByteSS.cuts [] Tryz.f65 (k + 1) [.v (.sl 22 a0z a0), .v (.sl 22 a1z a1)] = (laws_eqByteSS.f (k + 1) a0z a0 a1z a1).map laws_eqByteSS.enc := by
  have ih := laws_eqByteSS.rounds_eq a0z a0 a1z a1 k
  refine (laws_eqByteSS.s k a0z a0 a1z a1).trans (Eq.trans ?_ (laws_eqByteSS.b_nat laws_eqByteSS.enc some (laws_eqByteSS.l0 k) k a0z a0 a1z a1))
  simp only [ih, Option.map_some]
theorem laws_eqByteSS.sound (k : Nat) : SoundF Tryz.prog 65 (fun a => (laws_eqByteSS.ans k a).val) := by
  refine sound_plain (fun args res h => ?_) (fun t n => rfl)
  unfold laws_eqByteSS.ans at h
  dsimp only at h
  split at h
  · cases k with
    | zero => cases h
    | succ k =>
      unfold Ans.val at h
      rw [← laws_eqByteSS.eq] at h
      exact answer_sound mixed Tryz.func65 _ _ _ (k + 1) (fun j _ => tab_sound (tab_cons (laws_eqByteS.sound j) (tab_nil))) _ _ h
  · exact (Ans.no_val h).elim

/-! loop.example/g00790/laws.eqQc -/
def laws_eqQc.b {R : Type} (ret : Bool → Option R) (k : Nat) (a0_0 : Int) (a0_1 : Int) (a0_2z : Bool) (a0_2 : List Int) (a0_3z : Bool) (a0_3 : List Int) (a0_4z : Bool) (a0_4 : List T) (a1_0 : Int) (a1_1 : Int) (a1_2z : Bool) (a1_2 : List Int) (a1_3z : Bool) (a1_3 : List Int) (a1_4z : Bool) (a1_4 : List T) : Option R :=
  cond (!(decide (a0_0 = a1_0))) (ret false) (cond (!(decide (a0_1 = a1_1))) (ret false) ((laws_eqByteS.f k a0_2z a0_2 a1_2z a1_2).bind fun t0 => cond (!t0) (ret false) ((laws_eqByteS.f k a0_3z a0_3 a1_3z a1_3).bind fun t1 => cond (!t1) (ret false) ((laws_eqByteSS.f k a0_4z a0_4 a1_4z a1_4).bind fun t2 => cond (!t2) (ret false) (ret true)))))
def laws_eqQc.f : Nat → Int → Int → Bool → (List Int) → Bool → (List Int) → Bool → (List T) → Int → Int → Bool → (List Int) → Bool → (List Int) → Bool → (List T) → Option Bool
  | 0, _, _, _, _, _, _, _, _, _, _, _, _, _, _, _, _ => none
  | k + 1, a0_0, a0_1, a0_2z, a0_2, a0_3z, a0_3, a0_4z, a0_4, a1_0, a1_1, a1_2z, a1_2, a1_3z, a1_3, a1_4z, a1_4 => laws_eqQc.b some k a0_0 a0_1 a0_2z a0_2 a0_3z a0_3 a0_4z a0_4 a1_0 a1_1 a1_2z a1_2 a1_3z a1_3 a1_4z a1_4
def laws_eqQc.enc (r : Bool) : Res := ⟨[.vals false [((.bool r), true)]], []⟩
def laws_eqQc.ans (k : Nat) : List Arg → Ans
  | [.v (.agg [(.int .i64 a0_0), (.int .i64 a0_1), (.nums 5 .u8 a0_2z a0_2), (.nums 5 .u8 a0_3z a0_3), (.sl 22 a0_4z a0_4)]), .v (.agg [(.int .i64 a1_0), (.int .i64 a1_1), (.nums 5 .u8 a1_2z a1_2), (.nums 5 .u8 a1_3z a1_3), (.sl 22 a1_4z a1_4)])] => ⟨laws_eqQc.f k a0_0 a0_1 a0_2z a0_2 a0_3z a0_3 a0_4z a0_4 a1_0 a1_1 a1_2z a1_2 a1_3z a1_3 a1_4z a1_4, laws_eqQc.enc⟩
  | _ => Ans.no
def laws_eqQc.Cs (k : Nat) : CallSem := tab [(64, laws_eqByteS.ans k), (65, laws_eqByteSS.ans k)]
def laws_eqQc.cuts : List (Nat × Keep) := []
theorem laws_eqQc.s (k : Nat) (a0_0 : Int) (a0_1 : Int) (a0_2z : Bool) (a0_2 : List Int) (a0_3z : Bool) (a0_3 : List Int) (a0_4z : Bool) (a0_4 : List T) (a1_0 : Int) (a1_1 : Int) (a1_2z : Bool) (a1_2 : List Int) (a1_3z : Bool) (a1_3 : List Int) (a1_4z : Bool) (a1_4 : List T) : answer Tryz.prog laws_eqQc.Cs 100000 laws_eqQc.cuts [] Tryz.f38 (k + 1) [.v (.agg [(.int .i64 a0_0), (.int .i64 a0_1), (.nums 5 .u8 a0_2z a0_2), (.nums 5 .u8 a0_3z a0_3), (.sl 22 a0_4z a0_4)]), .v (.agg [(.int .i64 a1_0), (.int .i64 a1_1), (.nums 5 .u8 a1_2z a1_2), (.nums 5 .u8 a1_3z a1_3), (.sl 22 a1_4z a1_4)])] = laws_eqQc.b (fun r => some (laws_eqQc.enc r)) k a0_0 a0_1 a0_2z a0_2 a0_3z a0_3 a0_4z a0_4 a1_0 a1_1 a1_2z a1_2 a1_3z a1_3 a1_4z a1_4 := by kernel_rfl
theorem laws_eqQc.b_nat {R R' : Type} (e : R → R') (ret : Bool → Option R) (k : Nat) (a0_0 : Int) (a0_1 : Int) (a0_2z : Bool) (a0_2 : List Int) (a0_3z : Bool) (a0_3 : List Int) (a0_4z : Bool) (a0_4 : List T) (a1_0 : Int) (a1_1 : Int) (a1_2z : Bool) (a1_2 : List Int) (a1_3z : Bool) (a1_3 : List Int) (a1_4z : Bool) (a1_4 : List T) : laws_eqQc.b (fun r => (ret r).map e) k a0_0 a0_1 a0_2z a0_2 a0_3z a0_3 a0_4z a0_4 a1_0 a1_1 a1_2z a1_2 a1_3z a1_3 a1_4z a1_4 = (laws_eqQc.b ret k a0_0 a0_1 a0_2z a0_2 a0_3z a0_3 a0_4z a0_4 a1_0 a1_1 a1_2z a1_2 a1_3z a1_3 a1_4z a1_4).map e := by
  unfold laws_eqQc.b
  repeat' first | with_reducible refine nat_cond ?_ ?_ | with_reducible refine nat_bind fun _ => ?_ | rfl
theorem laws_eqQc.eq (k : Nat) (a0_0 : Int) (a0_1 : Int) (a0_2z : Bool) (a0_2 : List Int) (a0_3z : Bool) (a0_3 : List Int) (a0_4z : Bool) (a0_4 : List T) (a1_0 : Int) (a1_1 : Int) (a1_2z : Bool) (a1_2 : List Int) (a1_3z : Bool) (a1_3 : List Int) (a1_4z : Bool) (a1_4 : List T) : answer Tryz.prog laws_eqQc.Cs 100000 laws_eqQc.cuts [] Tryz.f38 (k + 1) [.v (.agg [(.int .i64 a0_0), (.int .i64 a0_1), (.nums 5 .u8 a0_2z a0_2), (.nums 5 .u8 a0_3z a0_3), (.sl 22 a0_4z a0_4)]), .v (.agg [(.int .i64 a1_0), (.int .i64 a1_1), (.nums 5 .u8 a1_2z a1_2), (.nums 5 .u8 a1_3z a1_3), (.sl 22 a1_4z a1_4)])] = (laws_eqQc.f (k + 1) a0_0 a0_1 a0_2z a0_2 a0_3z a0_3 a0_4z a0_4 a1_0 a1_1 a1_2z a1_2 a1_3z a1_3 a1_4z a1_4).map laws_eqQc.enc := by
  refine (laws_eqQc.s k a0_0 a0_1 a0_2z a0_2 a0_3z a0_3 a0_4z a0_4 a1_0 a1_1 a1_2z a1_2 a1_3z a1_3 a1_4z a1_4).trans (Eq.trans ?_ (laws_eqQc.b_nat laws_eqQc.enc some k a0_0 a0_1 a0_2z a0_2 a0_3z a0_3 a0_4z a0_4 a1_0 a1_1 a1_2z a1_2 a1_3z a1_3 a1_4z a1_4))
  simp only [Option.map_some]
theorem laws_eqQc.sound (k : Nat) : SoundF Tryz.prog 38 (fun a => (laws_eqQc.ans k a).val) := by
  refine sound_plain (fun args res h => ?_) (fun t n => rfl)
  unfold laws_eqQc.ans at h
  dsimp only at h
  split at h
  · cases k with
    | zero => cases h
    | succ k =>
      unfold Ans.val at h
      rw [← laws_eqQc.eq] at h
      exact answer_sound mixed Tryz.func38 _ _ _ (k + 1) (fun j _ => tab_sound (tab_cons (laws_eqByteS.sound j) (tab_cons (laws_eqByteSS.sound j) (tab_nil)))) _ _ h
  · exact (Ans.no_val h).elim

/-! loop.example/g00790/laws.eqHead -/
def laws_eqHead.b {R : Type} (ret : Bool → Option R) (k : Nat) (a0_0 : Int) (a0_1 : Int) (a0_2 : Int) (a0_3z : Bool) (a0_3 : List Int) (a0_4z : Bool) (a0_4 : List Int) (a0_5 : Int) (a0_6 : Int) (a0_7z : Bool) (a0_7 : List Int) (a0_8z : Bool) (a0_8 : List Int) (a0_9z : Bool) (a0_9 : List T) (a1_0 : Int) (a1_1 : Int) (a1_2 : Int) (a1_3z : Bool) (a1_3 : List Int) (a1_4z : Bool) (a1_4 : List Int) (a1_5 : Int) (a1_6 : Int) (a1_7z : Bool) (a1_7 : List Int) (a1_8z : Bool) (a1_8 : List Int) (a1_9z : Bool) (a1_9 : List T) : Option R :=
  cond (!(decide (a0_0 = a1_0))) (ret false) (cond (!(decide (a0_1 = a1_1))) (ret false) (cond (!(decide (a0_2 = a1_2))) (ret false) ((laws_eqByteS.f k a0_3z a0_3 a1_3z a1_3).bind fun t0 => cond (!t0) (ret false) ((laws_eqByteS.f k a0_4z a0_4 a1_4z a1_4).bind fun t1 => cond (!t1) (ret false) ((laws_eqQc.f k a0_5 a0_6 a0_7z a0_7 a0_8z a0_8 a0_9z a0_9 a1_5 a1_6 a1_7z a1_7 a1_8z a1_8 a1_9z a1_9).bind fun t2 => cond (!t2) (ret false) (ret true))))))
def laws_eqHead.f : Nat → Int → Int → Int → Bool → (List Int) → Bool → (List Int) → Int → Int → Bool → (List Int) → Bool → (List Int) → Bool → (List T) → Int → Int → Int → Bool → (List Int) → Bool → (List Int) → Int → Int → Bool → (List Int) → Bool → (List Int) → Bool → (List T) → Option Bool
  | 0, _, _, _, _, _, _, _, _, _, _, _, _, _, _, _, _, _, _, _, _, _, _, _, _, _, _, _, _, _, _ => none
  | k + 1, a0_0, a0_1, a0_2, a0_3z, a0_3, a0_4z, a0_4, a0_5, a0_6, a0_7z, a0_7, a0_8z, a0_8, a0_9z, a0_9, a1_0, a1_1, a1_2, a1_3z, a1_3, a1_4z, a1_4, a1_5, a1_6, a1_7z, a1_7, a1_8z, a1_8, a1_9z, a1_9 => laws_eqHead.b some k a0_0 a0_1 a0_2 a0_3z a0_3 a0_4z a0_4 a0_5 a0_6 a0_7z a0_7 a0_8z a0_8 a0_9z a0_9 a1_0 a1_1 a1_2 a1_3z a1_3 a1_4z a1_4 a1_5 a1_6 a1_7z a1_7 a1_8z a1_8 a1_9z a1_9
def laws_eqHead.enc (r : Bool) : Res := ⟨[.vals false [((.bool r), true)]], []⟩
def laws_eqHead.ans (k : Nat) : List Arg → Ans
  | [.v (.agg [(.int .i64 a0_0), (.int .i64 a0_1), (.int .i64 a0_2), (.nums 5 .u8 a0_3z a0_3), (.nums 5 .u8 a0_4z a0_4), (.int .i64 a0_5), (.int .i64 a0_6), (.nums 5 .u8 a0_7z a0_7), (.nums 5 .u8 a0_8z a0_8), (.sl 22 a0_9z a0_9)]), .v (.agg [(.int .i64 a1_0), (.int .i64 a1_1), (.int .i64 a1_2), (.nums 5 .u8 a1_3z a1_3), (.nums 5 .u8 a1_4z a1_4), (.int .i64 a1_5), (.int .i64 a1_6), (.nums 5 .u8 a1_7z a1_7), (.nums 5 .u8 a1_8z a1_8), (.sl 22 a1_9z a1_9)])] => ⟨laws_eqHead.f k a0_0 a0_1 a0_2 a0_3z a0_3 a0_4z a0_4 a0_5 a0_6 a0_7z a0_7 a0_8z a0_8 a0_9z a0_9 a1_0 a1_1 a1_2 a1_3z a1_3 a1_4z a1_4 a1_5 a1_6 a1_7z a1_7 a1_8z a1_8 a1_9z a1_9, laws_eqHead.enc⟩
  | _ => Ans.no
def laws_eqHead.Cs (k : Nat) : CallSem := tab [(64, laws_eqByteS.ans k), (38, laws_eqQc.ans k)]
def laws_eqHead.cuts : List (Nat × Keep) := []
theorem laws_eqHead.s (k : Nat) (a0_0 : Int) (a0_1 : Int) (a0_2 : Int) (a0_3z : Bool) (a0_3 : List Int) (a0_4z : Bool) (a0_4 : List Int) (a0_5 : Int) (a0_6 : Int) (a0_7z : Bool) (a0_7 : List Int) (a0_8z : Bool) (a0_8 : List Int) (a0_9z : Bool) (a0_9 : List T) (a1_0 : Int) (a1_1 : Int) (a1_2 : Int) (a1_3z : Bool) (a1_3 : List Int) (a1_4z : Bool) (a1_4 : List Int) (a1_5 : Int) (a1_6 : Int) (a1_7z : Bool) (a1_7 : List Int) (a1_8z : Bool) (a1_8 : List Int) (a1_9z : Bool) (a1_9 : List T) : answer Tryz.prog laws_eqHead.Cs 100000 laws_eqHead.cuts [] Tryz.f39 (k + 1) [.v (.agg [(.int .i64 a0_0), (.int .i64 a0_1), (.int .i64 a0_2), (.nums 5 .u8 a0_3z a0_3), (.nums 5 .u8 a0_4z a0_4), (.int .i64 a0_5), (.int .i64 a0_6), (.nums 5 .u8 a0_7z a0_7), (.nums 5 .u8 a0_8z a0_8), (.sl 22 a0_9z a0_9)]), .v (.agg [(.int .i64 a1_0), (.int .i64 a1_1), (.int .i64 a1_2), (.nums 5 .u8 a1_3z a1_3), (.nums 5 .u8 a1_4z a1_4), (.int .i64 a1_5), (.int .i64 a1_6), (.nums 5 .u8 a1_7z a1_7), (.nums 5 .u8 a1_8z a1_8), (.sl 22 a1_9z a1_9)])] = laws_eqHead.b (fun r => some (laws_eqHead.enc r)) k a0_0 a0_1 a0_2 a0_3z a0_3 a0_4z a0_4 a0_5 a0_6 a0_7z a0_7 a0_8z a0_8 a0_9z a0_9 a1_0 a1_1 a1_2 a1_3z a1_3 a1_4z a1_4 a1_5 a1_6 a1_7z a1_7 a1_8z a1_8 a1_9z a1_9 := by kernel_rfl
theorem laws_eqHead.b_nat {R R' : Type} (e : R → R') (ret : Bool → Option R) (k : Nat) (a0_0 : Int) (a0_1 : Int) (a0_2 : Int) (a0_3z : Bool) (a0_3 : List Int) (a0_4z : Bool) (a0_4 : List Int) (a0_5 : Int) (a0_6 : Int) (a0_7z : Bool) (a0_7 : List Int) (a0_8z : Bool) (a0_8 : List Int) (a0_9z : Bool) (a0_9 : List T) (a1_0 : Int) (a1_1 : Int) (a1_2 : Int) (a1_3z : Bool) (a1_3 : List Int) (a1_4z : Bool) (a1_4 : List Int) (a1_5 : Int) (a1_6 : Int) (a1_7z : Bool) (a1_7 : List Int) (a1_8z : Bool) (a1_8 : List Int) (a1_9z : Bool) (a1_9 : List T) : laws_eqHead.b (fun r => (ret r).map e) k a0_0 a0_1 a0_2 a0_3z a0_3 a0_4z a0_4 a0_5 a0_6 a0_7z a0_7 a0_8z a0_8 a0_9z a0_9 a1_0 a1_1 a1_2 a1_3z a1_3 a1_4z a1_4 a1_5 a1_6 a1_7z a1_7 a1_8z a1_8 a1_9z a1_9 = (laws_eqHead.b ret k a0_0 a0_1 a0_2 a0_3z a0_3 a0_4z a0_4 a0_5 a0_6 a0_7z a0_7 a0_8z a0_8 a0_9z a0_9 a1_0 a1_1 a1_2 a1_3z a1_3 a1_4z a1_4 a1_5 a1_6 a1_7z a1_7 a1_8z a1_8 a1_9z a1_9).map e := by
  unfold laws_eqHead.b
  repeat' first | with_reducible refine nat_cond ?_ ?_ | with_reducible refine nat_bind fun _ => ?_ | rfl
theorem laws_eqHead.eq (k : Nat) (a0_0 : Int) (a0_1 : Int) (a0_2 : Int) (a0_3z : Bool) (a0_3 : List Int) (a0_4z : Bool) (a0_4 : List Int) (a0_5 : Int) (a0_6 : Int) (a0_7z : Bool) (a0_7 : List Int) (a0_8z : Bool) (a0_8 : List Int) (a0_9z : Bool) (a0_9 : List T) (a1_0 : Int) (a1_1 : Int) (a1_2 : Int) (a1_3z : Bool) (a1_3 : List Int) (a1_4z : Bool) (a1_4 : List Int) (a1_5 : Int) (a1_6 : Int) (a1_7z : Bool) (a1_7 : List Int) (a1_8z : Bool) (a1_8 : List Int) (a1_9z : Bool) (a1_9 : List T) : answer Tryz.prog laws_eqHead.Cs 100000 laws_eqHead.cuts [] Tryz.f39 (k + 1) [.v (.agg [(.int .i64 a0_0), (.int .i64 a0_1), (.int .i64 a0_2), (.nums 5 .u8 a0_3z a0_3), (.nums 5 .u8 a0_4z a0_4), (.int .i64 a0_5), (.int .i64 a0_6), (.nums 5 .u8 a0_7z a0_7), (.nums 5 .u8 a0_8z a0_8), (.sl 22 a0_9z a0_9)]), .v (.agg [(.int .i64 a1_0), (.int .i64 a1_1), (.int .i64 a1_2), (.nums 5 .u8 a1_3z a1_3), (.nums 5 .u8 a1_4z a1_4), (.int .i64 a1_5), (.int .i64 a1_6), (.nums 5 .u8 a1_7z a1_7), (.nums 5 .u8 a1_8z a1_8), (.sl 22 a1_9z a1_9)])] = (laws_eqHead.f (k + 1) a0_0 a0_1 a0_2 a0_3z a0_3 a0_4z a0_4 a0_5 a0_6 a0_7z a0_7 a0_8z a0_8 a0_9z a0_9 a1_0 a1_1 a1_2 a1_3z a1_3 a1_4z a1_4 a1_5 a1_6 a1_7z a1_7 a1_8z a1_8 a1_9z a1_9).map laws_eqHead.enc := by
  refine (laws_eqHead.s k a0_0 a0_1 a0_2 a0_3z a0_3 a0_4z a0_4 a0_5 a0_6 a0_7z a0_7 a0_8z a0_8 a0_9z a0_9 a1_0 a1_1 a1_2 a1_3z a1_3 a1_4z a1_4 a1_5 a1_6 a1_7z a1_7 a1_8z a1_8 a1_9z a1_9).trans (Eq.trans ?_ (laws_eqHead.b_nat laws_eqHead.enc some k a0_0 a0_1 a0_2 a0_3z a0_3 a0_4z a0_4 a0_5 a0_6 a0_7z a0_7 a0_8z a0_8 a0_9z a0_9 a1_0 a1_1 a1_2 a1_3z a1_3 a1_4z a1_4 a1_5 a1_6 a1_7z a1_7 a1_8z a1_8 a1_9z a1_9))
  simp only [Option.map_some]
theorem laws_eqHead.sound (k : Nat) : SoundF Tryz.prog 39 (fun a => (laws_eqHead.ans k a).val) := by
  refine sound_plain (fun args res h => ?_) (fun t n => rfl)
  unfold laws_eqHead.ans at h
  dsimp only at h
  split at h
  · cases k with
    | zero => cases h
    | succ k =>
      unfold Ans.val at h
      rw [← laws_eqHead.eq] at h
      exact answer_sound mixed Tryz.func39 _ _ _ (k + 1) (fun j _ => tab_sound (tab_cons (laws_eqByteS.sound j) (tab_cons (laws_eqQc.sound j) (tab_nil)))) _ _ h
  · exact (Ans.no_val h).elim

/-! loop.example/g00790/laws.eqBlock -/
def laws_eqBlock.b {R : Type} (ret : Bool → Option R) (k : Nat) (a0_0 : Int) (a0_1 : Int) (a0_2 : Int) (a0_3z : Bool) (a0_3 : List Int) (a0_4z : Bool) (a0_4 : List Int) (a0_5 : Int) (a0_6 : Int) (a0_7z : Bool) (a0_7 : List Int) (a0_8z : Bool) (a0_8 : List Int) (a0_9z : Bool) (a0_9 : List T) (a0_10z : Bool) (a0_10 : List T) (a1_0 : Int) (a1_1 : Int) (a1_2 : Int) (a1_3z : Bool) (a1_3 : List Int) (a1_4z : Bool) (a1_4 : List Int) (a1_5 : Int) (a1_6 : Int) (a1_7z : Bool) (a1_7 : List Int) (a1_8z : Bool) (a1_8 : List Int) (a1_9z : Bool) (a1_9 : List T) (a1_10z : Bool) (a1_10 : List T) : Option R :=
  (laws_eqHead.f k a0_0 a0_1 a0_2 a0_3z a0_3 a0_4z a0_4 a0_5 a0_6 a0_7z a0_7 a0_8z a0_8 a0_9z a0_9 a1_0 a1_1 a1_2 a1_3z a1_3 a1_4z a1_4 a1_5 a1_6 a1_7z a1_7 a1_8z a1_8 a1_9z a1_9).bind fun t0 => cond (!t0) (ret false) ((laws_eqByteSS.f k a0_10z a0_10 a1_10z a1_10).bind fun t1 => cond (!t1) (ret false) (ret true))
def laws_eqBlock.f : Nat → Int → Int → Int → Bool → (List Int) → Bool → (List Int) → Int → Int → Bool → (List Int) → Bool → (List Int) → Bool → (List T) → Bool → (List T) → Int → Int → Int → Bool → (List Int) → Bool → (List Int) → Int → Int → Bool → (List Int) → Bool → (List Int) → Bool → (List T) → Bool → (List T) → Option Bool
  | 0, _, _, _, _, _, _, _, _, _, _, _, _, _, _, _, _, _, _, _, _, _, _, _, _, _, _, _, _, _, _, _, _, _, _ => none
  | k + 1, a0_0, a0_1, a0_2, a0_3z, a0_3, a0_4z, a0_4, a0_5, a0_6, a0_7z, a0_7, a0_8z, a0_8, a0_9z, a0_9, a0_10z, a0_10, a1_0, a1_1, a1_2, a1_3z, a1_3, a1_4z, a1_4, a1_5, a1_6, a1_7z, a1_7, a1_8z, a1_8, a1_9z, a1_9, a1_10z, a1_10 => laws_eqBlock.b some k a0_0 a0_1 a0_2 a0_3z a0_3 a0_4z a0_4 a0_5 a0_6 a0_7z a0_7 a0_8z a0_8 a0_9z a0_9 a0_10z a0_10 a1_0 a1_1 a1_2 a1_3z a1_3 a1_4z a1_4 a1_5 a1_6 a1_7z a1_7 a1_8z a1_8 a1_9z a1_9 a1_10z a1_10
def laws_eqBlock.enc (r : Bool) : Res := ⟨[.vals false [((.bool r), true)]], []⟩
def laws_eqBlock.ans (k : Nat) : List Arg → Ans
  | [.v (.agg [(.int .i64 a0_0), (.int .i64 a0_1), (.int .i64 a0_2), (.nums 5 .u8 a0_3z a0_3), (.nums 5 .u8 a0_4z a0_4), (.int .i64 a0_5), (.int .i64 a0_6), (.nums 5 .u8 a0_7z a0_7), (.nums 5 .u8 a0_8z a0_8), (.sl 22 a0_9z a0_9), (.sl 22 a0_10z a0_10)]), .v (.agg [(.int .i64 a1_0), (.int .i64 a1_1), (.int .i64 a1_2), (.nums 5 .u8 a1_3z a1_3), (.nums 5 .u8 a1_4z a1_4), (.int .i64 a1_5), (.int .i64 a1_6), (.nums 5 .u8 a1_7z a1_7), (.nums 5 .u8 a1_8z a1_8), (.sl 22 a1_9z a1_9), (.sl 22 a1_10z a1_10)])] => ⟨laws_eqBlock.f k a0_0 a0_1 a0_2 a0_3z a0_3 a0_4z a0_4 a0_5 a0_6 a0_7z a0_7 a0_8z a0_8 a0_9z a0_9 a0_10z a0_10 a1_0 a1_1 a1_2 a1_3z a1_3 a1_4z a1_4 a1_5 a1_6 a1_7z a1_7 a1_8z a1_8 a1_9z a1_9 a1_10z a1_10, laws_eqBlock.enc⟩
  | _ => Ans.no
def laws_eqBlock.Cs (k : Nat) : CallSem := tab [(65, laws_eqByteSS.ans k), (39, laws_eqHead.ans k)]
def laws_eqBlock.cuts : List (Nat × Keep) := []
theorem laws_eqBlock.s (k : Nat) (a0_0 : Int) (a0_1 : Int) (a0_2 : Int) (a0_3z : Bool) (a0_3 : List Int) (a0_4z : Bool) (a0_4 : List Int) (a0_5 : Int) (a0_6 : Int) (a0_7z : Bool) (a0_7 : List Int) (a0_8z : Bool) (a0_8 : List Int) (a0_9z : Bool) (a0_9 : List T) (a0_10z : Bool) (a0_10 : List T) (a1_0 : Int) (a1_1 : Int) (a1_2 : Int) (a1_3z : Bool) (a1_3 : List Int) (a1_4z : Bool) (a1_4 : List Int) (a1_5 : Int) (a1_6 : Int) (a1_7z : Bool) (a1_7 : List Int) (a1_8z : Bool) (a1_8 : List Int) (a1_9z : Bool) (a1_9 : List T) (a1_10z : Bool) (a1_10 : List T) : answer Tryz.prog laws_eqBlock.Cs 100000 laws_eqBlock.cuts [] Tryz.f40 (k + 1) [.v (.agg [(.int .i64 a0_0), (.int .i64 a0_1), (.int .i64 a0_2), (.nums 5 .u8 a0_3z a0_3), (.nums 5 .u8 a0_4z a0_4), (.int .i64 a0_5), (.int .i64 a0_6), (.nums 5 .u8 a0_7z a0_7), (.nums 5 .u8 a0_8z a0_8), (.sl 22 a0_9z a0_9), (.sl 22 a0_10z a0_10)]), .v (.agg [(.int .i64 a1_0), (.int .i64 a1_1), (.int .i64 a1_2), (.nums 5 .u8 a1_3z a1_3), (.nums 5 .u8 a1_4z a1_4), (.int .i64 a1_5), (.int .i64 a1_6), (.nums 5 .u8 a1_7z a1_7), (.nums 5 .u8 a1_8z a1_8), (.sl 22 a1_9z a1_9), (.sl 22 a1_10z a1_10)])] = laws_eqBlock.b (fun r => some (laws_eqBlock.enc r)) k a0_0 a0_1 a0_2 a0_3z a0_3 a0_4z a0_4 a0_5 a0_6 a0_7z a0_7 a0_8z a0_8 a0_9z a0_9 a0_10z a0_10 a1_0 a1_1 a1_2 a1_3z a1_3 a1_4z a1_4 a1_5 a1_6 a1_7z a1_7 a1_8z a1_8 a1_9z a1_9 a1_10z a1_10 := by kernel_rfl
theorem laws_eqBlock.b_nat {R R' : Type} (e : R → R') (ret : Bool → Option R) (k : Nat) (a0_0 : Int) (a0_1 : Int) (a0_2 : Int) (a0_3z : Bool) (a0_3 : List Int) (a0_4z : Bool) (a0_4 : List Int) (a0_5 : Int) (a0_6 : Int) (a0_7z : Bool) (a0_7 : List Int) (a0_8z : Bool) (a0_8 : List Int) (a0_9z : Bool) (a0_9 : List T) (a0_10z : Bool) (a0_10 : List T) (a1_0 : Int) (a1_1 : Int) (a1_2 : Int) (a1_3z : Bool) (a1_3 : List Int) (a1_4z : Bool) (a1_4 : List Int) (a1_5 : Int) (a1_6 : Int) (a1_7z : Bool) (a1_7 : List Int) (a1_8z : Bool) (a1_8 : List Int) (a1_9z : Bool) (a1_9 : List T) (a1_10z : Bool) (a1_10 : List T) : laws_eqBlock.b (fun r => (ret r).map e) k a0_0 a0_1 a0_2 a0_3z a0_3 a0_4z a0_4 a0_5 a0_6 a0_7z a0_7 a0_8z a0_8 a0_9z a0_9 a0_10z a0_10 a1_0 a1_1 a1_2 a1_3z a1_3 a1_4z a1_4 a1_5 a1_6 a1_7z a1_7 a1_8z a1_8 a1_9z a1_9 a1_10z a1_10 = (laws_eqBlock.b ret k a0_0 a0_1 a0_2 a0_3z a0_3 a0_4z a0_4 a0_5 a0_6 a0_7z a0_7 a0_8z a0_8 a0_9z a0_9 a0_10z a0_10 a1_0 a1_1 a1_2 a1_3z a1_3 a1_4z a1_4 a1_5 a1_6 a1_7z a1_7 a1_8z a1_8 a1_9z a1_9 a1_10z a1_10).map e := by
  unfold laws_eqBlock.b
  repeat' first | with_reducible refine nat_cond ?_ ?_ | with_reducible refine nat_bind fun _ => ?_ | rfl
theorem laws_eqBlock.eq (k : Nat) (a0_0 : Int) (a0_1 : Int) (a0_2 : Int) (a0_3z : Bool) (a0_3 : List Int) (a0_4z : Bool) (a0_4 : List Int) (a0_5 : Int) (a0_6 : Int) (a0_7z : Bool) (a0_7 : List Int) (a0_8z : Bool) (a0_8 : List Int) (a0_9z : Bool) (a0_9 : List T) (a0_10z : Bool) (a0_10 : List T) (a1_0 : Int) (a1_1 : Int) (a1_2 : Int) (a1_3z : Bool) (a1_3 : List Int) (a1_4z : Bool) (a1_4 : List Int) (a1_5 : Int) (a1_6 : Int) (a1_7z : Bool) (a1_7 : List Int) (a1_8z : Bool) (a1_8 : List Int) (a1_9z : Bool) (a1_9 : List T) (a1_10z : Bool) (a1_10 : List T) : answer Tryz.prog laws_eqBlock.Cs 100000 laws_eqBlock.cuts [] Tryz.f40 (k + 1) [.v (.agg [(.int .i64 a0_0), (.int .i64 a0_1), (.int .i64 a0_2), (.nums 5 .u8 a0_3z a0_3), (.nums 5 .u8 a0_4z a0_4), (.int .i64 a0_5), (.int .i64 a0_6), (.nums 5 .u8 a0_7z a0_7), (.nums 5 .u8 a0_8z a0_8), (.sl 22 a0_9z a0_9), (.sl 22 a0_10z a0_10)]), .v (.agg [(.int .i64 a1_0), (.int .i64 a1_1), (.int .i64 a1_2), (.nums 5 .u8 a1_3z a1_3), (.nums 5 .u8 a1_4z a1_4), (.int .i64 a1_5), (.int .i64 a1_6), (.nums 5 .u8 a1_7z a1_7), (.nums 5 .u8 a1_8z a1_8), (.sl 22 a1_9z a1_9), (.sl 22 a1_10z a1_10)])] = (laws_eqBlock.f (k + 1) a0_0 a0_1 a0_2 a0_3z a0_3 a0_4z a0_4 a0_5 a0_6 a0_7z a0_7 a0_8z a0_8 a0_9z a0_9 a0_10z a0_10 a1_0 a1_1 a1_2 a1_3z a1_3 a1_4z a1_4 a1_5 a1_6 a1_7z a1_7 a1_8z a1_8 a1_9z a1_9 a1_10z a1_10).map laws_eqBlock.enc := by
  refine (laws_eqBlock.s k a0_0 a0_1 a0_2 a0_3z a0_3 a0_4z a0_4 a0_5 a0_6 a0_7z a0_7 a0_8z a0_8 a0_9z a0_9 a0_10z a0_10 a1_0 a1_1 a1_2 a1_3z a1_3 a1_4z a1_4 a1_5 a1_6 a1_7z a1_7 a1_8z a1_8 a1_9z a1_9 a1_10z a1_10).trans (Eq.trans ?_ (laws_eqBlock.b_nat laws_eqBlock.enc some k a0_0 a0_1 a0_2 a0_3z a0_3 a0_4z a0_4 a0_5 a0_6 a0_7z a0_7 a0_8z a0_8 a0_9z a0_9 a0_10z a0_10 a1_0 a1_1 a1_2 a1_3z a1_3 a1_4z a1_4 a1_5 a1_6 a1_7z a1_7 a1_8z a1_8 a1_9z a1_9 a1_10z a1_10))
  simp only [Option.map_some]
theorem laws_eqBlock.sound (k : Nat) : SoundF Tryz.prog 40 (fun a => (laws_eqBlock.ans k a).val) := by
  refine sound_plain (fun args res h => ?_) (fun t n => rfl)
  unfold laws_eqBlock.ans at h
  dsimp only at h
  split at h
  · cases k with
    | zero => cases h
    | succ k =>
      unfold Ans.val at h
      rw [← laws_eqBlock.eq] at h
      exact answer_sound mixed Tryz.func40 _ _ _ (k + 1) (fun j _ => tab_sound (tab_cons (laws_eqByteSS.sound j) (tab_cons (laws_eqHead.sound j) (tab_nil)))) _ _ h
  · exact (Ans.no_val h).elim

/-! loop.example/g00790/laws.eqEntry -/
def laws_eqEntry.b {R : Type} (ret : Bool → Option R) (k : Nat) (a0_0 : Int) (a0_1 : Int) (a0_2z : Bool) (a0_2 : List Int) (a1_0 : Int) (a1_1 : Int) (a1_2z : Bool) (a1_2 : List Int) : Option R :=
  cond (!(decide (a0_0 = a1_0))) (ret false) (cond (!(decide (a0_1 = a1_1))) (ret false) ((laws_eqByteS.f k a0_2z a0_2 a1_2z a1_2).bind fun t0 => cond (!t0) (ret false) (ret true)))
def laws_eqEntry.f : Nat → Int → Int → Bool → (List Int) → Int → Int → Bool → (List Int) → Option Bool
  | 0, _, _, _, _, _, _, _, _ => none
  | k + 1, a0_0, a0_1, a0_2z, a0_2, a1_0, a1_1, a1_2z, a1_2 => laws_eqEntry.b some k a0_0 a0_1 a0_2z a0_2 a1_0 a1_1 a1_2z a1_2
def laws_eqEntry.enc (r : Bool) : Res := ⟨[.vals false [((.bool r), true)]], []⟩
def laws_eqEntry.ans (k : Nat) : List Arg → Ans
  | [.v (.agg [(.int .i64 a0_0), (.int .i64 a0_1), (.nums 5 .u8 a0_2z a0_2)]), .v (.agg [(.int .i64 a1_0), (.int .i64 a1_1), (.nums 5 .u8 a1_2z a1_2)])] => ⟨laws_eqEntry.f k a0_0 a0_1 a0_2z a0_2 a1_0 a1_1 a1_2z a1_2, laws_eqEntry.enc⟩
  | _ => Ans.no
def laws_eqEntry.Cs (k : Nat) : CallSem := tab [(64, laws_eqByteS.ans k)]
def laws_eqEntry.cuts : List (Nat × Keep) := []
theorem laws_eqEntry.s (k : Nat) (a0_0 : Int) (a0_1 : Int) (a0_2z : Bool) (a0_2 : List Int) (a1_0 : Int) (a1_1 : Int) (a1_2z : Bool) (a1_2 : List Int) : answer Tryz.prog laws_eqEntry.Cs 100000 laws_eqEntry.cuts [] Tryz.f77 (k + 1) [.v (.agg [(.int .i64 a0_0), (.int .i64 a0_1), (.nums 5 .u8 a0_2z a0_2)]), .v (.agg [(.int .i64 a1_0), (.int .i64 a1_1), (.nums 5 .u8 a1_2z a1_2)])] = laws_eqEntry.b (fun r => some (laws_eqEntry.enc r)) k a0_0 a0_1 a0_2z a0_2 a1_0 a1_1 a1_2z a1_2 := by kernel_rfl
theorem laws_eqEntry.b_nat {R R' : Type} (e : R → R') (ret : Bool → Option R) (k : Nat) (a0_0 : Int) (a0_1 : Int) (a0_2z : Bool) (a0_2 : List Int) (a1_0 : Int) (a1_1 : Int) (a1_2z : Bool) (a1_2 : List Int) : laws_eqEntry.b (fun r => (ret r).map e) k a0_0 a0_1 a0_2z a0_2 a1_0 a1_1 a1_2z a1_2 = (laws_eqEntry.b ret k a0_0 a0_1 a0_2z a0_2 a1_0 a1_1 a1_2z a1_2).map e := by
  unfold laws_eqEntry.b
  repeat' first | with_reducible refine nat_cond ?_ ?_ | with_reducible refine nat_bind fun _ => ?_ | rfl
theorem laws_eqEntry.eq (k : Nat) (a0_0 : Int) (a0_1 : Int) (a0_2z : Bool) (a0_2 : List Int) (a1_0 : Int) (a1_1 : Int) (a1_2z : Bool) (a1_2 : List Int) : answer Tryz.prog laws_eqEntry.Cs 100000 laws_eqEntry.cuts [] Tryz.f77 (k + 1) [.v (.agg [(.int .i64 a0_0), (.int .i64 a0_1), (.nums 5 .u8 a0_2z a0_2)]), .v (.agg [(.int .i64 a1_0), (.int .i64 a1_1), (.nums 5 .u8 a1_2z a1_2)])] = (laws_eqEntry.f (k + 1) a0_0 a0_1 a0_2z a0_2 a1_0 a1_1 a1_2z a1_2).map laws_eqEntry.enc := by
  refine (laws_eqEntry.s k a0_0 a0_1 a0_2z a0_2 a1_0 a1_1 a1_2z a1_2).trans (Eq.trans ?_ (laws_eqEntry.b_nat laws_eqEntry.enc some k a0_0 a0_1 a0_2z a0_2 a1_0 a1_1 a1_2z a1_2))
  simp only [Option.map_some]
theorem laws_eqEntry.sound (k : Nat) : SoundF Tryz.prog 77 (fun a => (laws_eqEntry.ans k a).val) := by
  refine sound_plain (fun args res h => ?_) (fun t n => rfl)
  unfold laws_eqEntry.ans at h
  dsimp only at h
  split at h
  · cases k with
    | zero => cases h
    | succ k =>
      unfold Ans.val at h
      rw [← laws_eqEntry.eq] at h
      exact answer_sound mixed Tryz.func77 _ _ _ (k + 1) (fun j _ => tab_sound (tab_cons (laws_eqByteS.sound j) (tab_nil))) _ _ h
  · exact (Ans.no_val h).elim

/-! loop.example/g00790/laws.eqEntryS -/
def laws_eqEntryS.b {R : Type} (ret : Bool → Option R) (j0 : Bool → (List T) → Bool → (List T) → Int → Option R) (k : Nat) (a0z : Bool) (a0 : List T) (a1z : Bool) (a1 : List T) : Option R :=
  cond (!(decide (((a0).length : Int) = ((a1).length : Int)))) (ret false) (j0 a0z a0 a1z a1 0)
def laws_eqEntryS.l0b {R : Type} (ret : Bool → Option R) (j0 : Bool → (List T) → Bool → (List T) → Int → Option R) (k : Nat) (x0z : Bool) (x0 : List T) (x1z : Bool) (x1 : List T) (x5 : Int) : Option R :=
  cond (decide (x5 < ((x0).length : Int))) (cond (decide ((0 : Int) ≤ x5)) (cond (decide (x5 < ((x0).length : Int))) (cond (decide ((0 : Int) ≤ x5)) (cond (decide (x5 < ((x1).length : Int))) ((laws_eqEntry.f k (((((x0).getD (x5).toNat .bad).cells.getD 0 .bad)).toInt) (((((x0).getD (x5).toNat .bad).cells.getD 1 .bad)).toInt) (((((x0).getD (x5).toNat .bad).cells.getD 2 .bad)).isNil) (((((x0).getD (x5).toNat .bad).cells.getD 2 .bad)).toNums) (((((x1).getD (x5).toNat .bad).cells.getD 0 .bad)).toInt) (((((x1).getD (x5).toNat .bad).cells.getD 1 .bad)).toInt) (((((x1).getD (x5).toNat .bad).cells.getD 2 .bad)).isNil) (((((x1).getD (x5).toNat .bad).cells.getD 2 .bad)).toNums)).bind fun t0 => cond (!t0) (ret false) (j0 x0z x0 x1z x1 (RowKit.wrap64 (x5 + 1)))) (none)) (none)) (none)) (none)) (ret true)
def laws_eqEntryS.l0 : Nat → Bool → (List T) → Bool → (List T) → Int → Option Bool
  | 0, _, _, _, _, _ => none
  | k + 1, x0z, x0, x1z, x1, x5 => laws_eqEntryS.l0b some (laws_eqEntryS.l0 k) k x0z x0 x1z x1 x5
def laws_eqEntryS.f : Nat → Bool → (List T) → Bool → (List T) → Option Bool
  | 0, _, _, _, _ => none
  | k + 1, a0z, a0, a1z, a1 => laws_eqEntryS.b some (laws_eqEntryS.l0 k) k a0z a0 a1z a1
def laws_eqEntryS.enc (r : Bool) : Res := ⟨[.vals false [((.bool r), true)]], []⟩
def laws_eqEntryS.ans (k : Nat) : List Arg → Ans
  | [.v (.sl 102 a0z a0), .v (.sl 102 a1z a1)] => ⟨laws_eqEntryS.f k a0z a0 a1z a1, laws_eqEntryS.enc⟩
  | _ => Ans.no
def laws_eqEntryS.Cs (k : Nat) : CallSem := tab [(77, laws_eqEntry.ans k)]
def laws_eqEntryS.cuts : List (Nat × Keep) := [(58, ⟨[(0, some []), (1, some []), (5, some [])], []⟩)]
noncomputable def laws_eqEntryS.K0 : List Fr := framesAt [true, true, false, true, false] (bodyOf Tryz.f66 laws_eqEntryS.cuts) []
def laws_eqEntryS.N0 (x0z : Bool) (x0 : List T) (x1z : Bool) (x1 : List T) (x5 : Int) : St := stOf 27 27 2 [(0, .val ⟨(.sl 102 x0z x0), [], false, none⟩), (1, .val ⟨(.sl 102 x1z x1), [], false, none⟩), (5, .val (V.s (.int .i64 x5)))] []
theorem laws_eqEntryS.s (k : Nat) (a0z : Bool) (a0 : List T) (a1z : Bool) (a1 : List T) : answer Tryz.prog laws_eqEntryS.Cs 100000 laws_eqEntryS.cuts [] Tryz.f66 (k + 1) [.v (.sl 102 a0z a0), .v (.sl 102 a1z a1)] = laws_eqEntryS.b (fun r => some (laws_eqEntryS.enc r)) (fun x0z x0 x1z x1 x5 => rounds Tryz.prog laws_eqEntryS.Cs (finish Tryz.prog [] Tryz.f66 [.v (.sl 102 a0z a0), .v (.sl 102 a1z a1)]) 100000 k laws_eqEntryS.K0 (laws_eqEntryS.N0 x0z x0 x1z x1 x5)) k a0z a0 a1z a1 := by kernel_rfl
theorem laws_eqEntryS.s0 (k : Nat) (G : List Fr → St → Option Res) (a0z : Bool) (a0 : List T) (a1z : Bool) (a1 : List T) (yx0z : Bool) (yx0 : List T) (yx1z : Bool) (yx1 : List T) (yx5 : Int) : resume Tryz.prog (laws_eqEntryS.Cs k) G (finish Tryz.prog [] Tryz.f66 [.v (.sl 102 a0z a0), .v (.sl 102 a1z a1)]) 100000 laws_eqEntryS.K0 (laws_eqEntryS.N0 yx0z yx0 yx1z yx1 yx5) = laws_eqEntryS.l0b (fun r => some (laws_eqEntryS.enc r)) (fun x0z x0 x1z x1 x5 => G laws_eqEntryS.K0 (laws_eqEntryS.N0 x0z x0 x1z x1 x5)) k yx0z yx0 yx1z yx1 yx5 := by kernel_rfl
theorem laws_eqEntryS.b_nat {R R' : Type} (e : R → R') (ret : Bool → Option R) (j0 : Bool → (List T) → Bool → (List T) → Int → Option R) (k : Nat) (a0z : Bool) (a0 : List T) (a1z : Bool) (a1 : List T) : laws_eqEntryS.b (fun r => (ret r).map e) (fun x0z x0 x1z x1 x5 => (j0 x0z x0 x1z x1 x5).map e) k a0z a0 a1z a1 = (laws_eqEntryS.b ret j0 k a0z a0 a1z a1).map e := by
  unfold laws_eqEntryS.b
  repeat' first | with_reducible refine nat_cond ?_ ?_ | with_reducible refine nat_bind fun _ => ?_ | rfl
theorem laws_eqEntryS.l0b_nat {R R' : Type} (e : R → R') (ret : Bool → Option R) (j0 : Bool → (List T) → Bool → (List T) → Int → Option R) (k : Nat) (x0z : Bool) (x0 : List T) (x1z : Bool) (x1 : List T) (x5 : Int) : laws_eqEntryS.l0b (fun r => (ret r).map e) (fun x0z x0 x1z x1 x5 => (j0 x0z x0 x1z x1 x5).map e) k x0z x0 x1z x1 x5 = (laws_eqEntryS.l0b ret j0 k x0z x0 x1z x1 x5).map e := by
  unfold laws_eqEntryS.l0b
  repeat' first | with_reducible refine nat_cond ?_ ?_ | with_reducible refine nat_bind fun _ => ?_ | rfl
theorem laws_eqEntryS.rounds_eq (a0z : Bool) (a0 : List T) (a1z : Bool) (a1 : List T) : ∀ k, (∀ (x0z : Bool) (x0 : List T) (x1z : Bool) (x1 : List T) (x5 : Int), rounds Tryz.prog laws_eqEntryS.Cs (finish Tryz.prog [] Tryz.f66 [.v (.sl 102 a0z a0), .v (.sl 102 a1z a1)]) 100000 k laws_eqEntryS.K0 (laws_eqEntryS.N0 x0z x0 x1z x1 x5) = (laws_eqEntryS.l0 k x0z x0 x1z x1 x5).map laws_eqEntryS.enc)
  | 0 => fun _ _ _ _ _ => rfl
  | k + 1 => by
    have ih := laws_eqEntryS.rounds_eq a0z a0 a1z a1 k
    refine fun _ _ _ _ _ => ?_
    · refine (laws_eqEntryS.s0 k _ a0z a0 a1z a1 _ _ _ _ _).trans (Eq.trans ?_ (laws_eqEntryS.l0b_nat laws_eqEntryS.enc some (laws_eqEntryS.l0 k) k _ _ _ _ _))
      simp only [ih, Option.map_some]
theorem laws_eqEntryS.eq (k : Nat) (a0z : Bool) (a0 : List T) (a1z : Bool) (a1 : List T) : answer Tryz.prog laws_eqEntryS.Cs 100000 laws_eqEntryS.cuts [] Tryz.f66 (k + 1) [.v (.sl 102 a0z a0), .v (.sl 102 a1z a1)] = (laws_eqEntryS.f (k + 1) a0z a0 a1z a1).map laws_eqEntryS.enc := by
  have ih := laws_eqEntryS.rounds_eq a0z a0 a1z a1 k
  refine (laws_eqEntryS.s k a0z a0 a1z a1).trans (Eq.trans ?_ (laws_eqEntryS.b_nat laws_eqEntryS.enc some (laws_eqEntryS.l0 k) k a0z a0 a1z a1))
  simp only [ih, Option.map_some]
theorem laws_eqEntryS.sound (k : Nat) : SoundF Tryz.prog 66 (fun a => (laws_eqEntryS.ans k a).val) := by
  refine sound_plain (fun args res h => ?_) (fun t n => rfl)
  unfold laws_eqEntryS.ans at h
  dsimp only at h
  split at h
  · cases k with
    | zero => cases h
    | succ k =>
      unfold Ans.val at h
      rw [← laws_eqEntryS.eq] at h
      exact answer_sound mixed Tryz.func66 _ _ _ (k + 1) (fun j _ => tab_sound (tab_cons (laws_eqEntry.sound j) (tab_nil))) _ _ h
  · exact (Ans.no_val h).elim

/-! loop.example/g00790/laws.eqTc -/
def laws_eqTc.b {R : Type} (ret : Bool → Option R) (k : Nat) (a0_0 : Int) (a0_1z : Bool) (a0_1 : List T) (a1_0 : Int) (a1_1z : Bool) (a1_1 : List T) : Option R :=
  cond (!(decide (a0_0 = a1_0))) (ret false) ((laws_eqEntryS.f k a0_1z a0_1 a1_1z a1_1).bind fun t0 => cond (!t0) (ret false) (ret true))
def laws_eqTc.f : Nat → Int → Bool → (List T) → Int → Bool → (List T) → Option Bool
  | 0, _, _, _, _, _, _ => none
  | k + 1, a0_0, a0_1z, a0_1, a1_0, a1_1z, a1_1 => laws_eqTc.b some k a0_0 a0_1z a0_1 a1_0 a1_1z a1_1
def laws_eqTc.enc (r : Bool) : Res := ⟨[.vals false [((.bool r), true)]], []⟩
def laws_eqTc.ans (k : Nat) : List Arg → Ans
  | [.v (.agg [(.int .i64 a0_0), (.sl 102 a0_1z a0_1)]), .v (.agg [(.int .i64 a1_0), (.sl 102 a1_1z a1_1)])] => ⟨laws_eqTc.f k a0_0 a0_1z a0_1 a1_0 a1_1z a1_1, laws_eqTc.enc⟩
  | _ => Ans.no
def laws_eqTc.Cs (k : Nat) : CallSem := tab [(66, laws_eqEntryS.ans k)]
def laws_eqTc.cuts : List (Nat × Keep) := []
theorem laws_eqTc.s (k : Nat) (a0_0 : Int) (a0_1z : Bool) (a0_1 : List T) (a1_0 : Int) (a1_1z : Bool) (a1_1 : List T) : answer Tryz.prog laws_eqTc.Cs 100000 laws_eqTc.cuts [] Tryz.f41 (k + 1) [.v (.agg [(.int .i64 a0_0), (.sl 102 a0_1z a0_1)]), .v (.agg [(.int .i64 a1_0), (.sl 102 a1_1z a1_1)])] = laws_eqTc.b (fun r => some (laws_eqTc.enc r)) k a0_0 a0_1z a0_1 a1_0 a1_1z a1_1 := by kernel_rfl
theorem laws_eqTc.b_nat {R R' : Type} (e : R → R') (ret : Bool → Option R) (k : Nat) (a0_0 : Int) (a0_1z : Bool) (a0_1 : List T) (a1_0 : Int) (a1_1z : Bool) (a1_1 : List T) : laws_eqTc.b (fun r => (ret r).map e) k a0_0 a0_1z a0_1 a1_0 a1_1z a1_1 = (laws_eqTc.b ret k a0_0 a0_1z a0_1 a1_0 a1_1z a1_1).map e := by
  unfold laws_eqTc.b
  repeat' first | with_reducible refine nat_cond ?_ ?_ | with_reducible refine nat_bind fun _ => ?_ | rfl
theorem laws_eqTc.eq (k : Nat) (a0_0 : Int) (a0_1z : Bool) (a0_1 : List T) (a1_0 : Int) (a1_1z : Bool) (a1_1 : List T) : answer Tryz.prog laws_eqTc.Cs 100000 laws_eqTc.cuts [] Tryz.f41 (k + 1) [.v (.agg [(.int .i64 a0_0), (.sl 102 a0_1z a0_1)]), .v (.agg [(.int .i64 a1_0), (.sl 102 a1_1z a1_1)])] = (laws_eqTc.f (k + 1) a0_0 a0_1z a0_1 a1_0 a1_1z a1_1).map laws_eqTc.enc := by
  refine (laws_eqTc.s k a0_0 a0_1z a0_1 a1_0 a1_1z a1_1).trans (Eq.trans ?_ (laws_eqTc.b_nat laws_eqTc.enc some k a0_0 a0_1z a0_1 a1_0 a1_1z a1_1))
  simp only [Option.map_some]
theorem laws_eqTc.sound (k : Nat) : SoundF Tryz.prog 41 (fun a => (laws_eqTc.ans k a).val) := by
  refine sound_plain (fun args res h => ?_) (fun t n => rfl)
  unfold laws_eqTc.ans at h
  dsimp only at h
  split at h
  · cases k with
    | zero => cases h
    | succ k =>
      unfold Ans.val at h
      rw [← laws_eqTc.eq] at h
      exact answer_sound mixed Tryz.func41 _ _ _ (k + 1) (fun j _ => tab_sound (tab_cons (laws_eqEntryS.sound j) (tab_nil))) _ _ h
  · exact (Ans.no_val h).elim

/-! loop.example/g00790/laws.eqHeadS -/
def laws_eqHeadS.b {R : Type} (ret : Bool → Option R) (j0 : Bool → (List T) → Bool → (List T) → Int → Option R) (k : Nat) (a0z : Bool) (a0 : List T) (a1z : Bool) (a1 : List T) : Option R :=
  cond (!(decide (((a0).length : Int) = ((a1).length : Int)))) (ret false) (j0 a0z a0 a1z a1 0)
def laws_eqHeadS.l0b {R : Type} (ret : Bool → Option R) (j0 : Bool → (List T) → Bool → (List T) → Int → Option R) (k : Nat) (x0z : Bool) (x0 : List T) (x1z : Bool) (x1 : List T) (x5 : Int) : Option R :=
  cond (decide (x5 < ((x0).length : Int))) (cond (decide ((0 : Int) ≤ x5)) (cond (decide (x5 < ((x0).length : Int))) (cond (decide ((0 : Int) ≤ x5)) (cond (decide (x5 < ((x1).length : Int))) ((laws_eqHead.f k (((((x0).getD (x5).toNat .bad).cells.getD 0 .bad)).toInt) (((((x0).getD (x5).toNat .bad).cells.getD 1 .bad)).toInt) (((((x0).getD (x5).toNat .bad).cells.getD 2 .bad)).toInt) (((((x0).getD (x5).toNat .bad).cells.getD 3 .bad)).isNil) (((((x0).getD (x5).toNat .bad).cells.getD 3 .bad)).toNums) (((((x0).getD (x5).toNat .bad).cells.getD 4 .bad)).isNil) (((((x0).getD (x5).toNat .bad).cells.getD 4 .bad)).toNums) (((((x0).getD (x5).toNat .bad).cells.getD 5 .bad)).toInt) (((((x0).getD (x5).toNat .bad).cells.getD 6 .bad)).toInt) (((((x0).getD (x5).toNat .bad).cells.getD 7 .bad)).isNil) (((((x0).getD (x5).toNat .bad).cells.getD 7 .bad)).toNums) (((((x0).getD (x5).toNat .bad).cells.getD 8 .bad)).isNil) (((((x0).getD (x5).toNat .bad).cells.getD 8 .bad)).toNums) (((((x0).getD (x5).toNat .bad).cells.getD 9 .bad)).isNil) (((((x0).getD (x5).toNat .bad).cells.getD 9 .bad)).toList) (((((x1).getD (x5).toNat .bad).cells.getD 0 .bad)).toInt) (((((x1).getD (x5).toNat .bad).cells.getD 1 .bad)).toInt) (((((x1).getD (x5).toNat .bad).cells.getD 2 .bad)).toInt) (((((x1).getD (x5).toNat .bad).cells.getD 3 .bad)).isNil) (((((x1).getD (x5).toNat .bad).cells.getD 3 .bad)).toNums) (((((x1).getD (x5).toNat .bad).cells.getD 4 .bad)).isNil) (((((x1).getD (x5).toNat .bad).cells.getD 4 .bad)).toNums) (((((x1).getD (x5).toNat .bad).cells.getD 5 .bad)).toInt) (((((x1).getD (x5).toNat .bad).cells.getD 6 .bad)).toInt) (((((x1).getD (x5).toNat .bad).cells.getD 7 .bad)).isNil) (((((x1).getD (x5).toNat .bad).cells.getD 7 .bad)).toNums) (((((x1).getD (x5).toNat .bad).cells.getD 8 .bad)).isNil) (((((x1).getD (x5).toNat .bad).cells.getD 8 .bad)).toNums) (((((x1).getD (x5).toNat .bad).cells.getD 9 .bad)).isNil) (((((x1).getD (x5).toNat .bad).cells.getD 9 .bad)).toList)).bind fun t0 => cond (!t0) (ret false) (j0 x0z x0 x1z x1 (RowKit.wrap64 (x5 + 1)))) (none)) (none)) (none)) (none)) (ret true)
def laws_eqHeadS.l0 : Nat → Bool → (List T) → Bool → (List T) → Int → Option Bool
  | 0, _, _, _, _, _ => none
  | k + 1, x0z, x0, x1z, x1, x5 => laws_eqHeadS.l0b some (laws_eqHeadS.l0 k) k x0z x0 x1z x1 x5
def laws_eqHeadS.f : Nat → Bool → (List T) → Bool → (List T) → Option Bool
  | 0, _, _, _, _ => none
  | k + 1, a0z, a0, a1z, a1 => laws_eqHeadS.b some (laws_eqHeadS.l0 k) k a0z a0 a1z a1
def laws_eqHeadS.enc (r : Bool) : Res := ⟨[.vals false [((.bool r), true)]], []⟩
def laws_eqHeadS.ans (k : Nat) : List Arg → Ans
  | [.v (.sl 47 a0z a0), .v (.sl 47 a1z a1)] => ⟨laws_eqHeadS.f k a0z a0 a1z a1, laws_eqHeadS.enc⟩
  | _ => Ans.no
def laws_eqHeadS.Cs (k : Nat) : CallSem := tab [(39, laws_eqHead.ans k)]
def laws_eqHeadS.cuts : List (Nat × Keep) := [(58, ⟨[(0, some []), (1, some []), (5, some [])], []⟩)]
noncomputable def laws_eqHeadS.K0 : List Fr := framesAt [true, true, false, true, false] (bodyOf Tryz.f67 laws_eqHeadS.cuts) []
def laws_eqHeadS.N0 (x0z : Bool) (x0 : List T) (x1z : Bool) (x1 : List T) (x5 : Int) : St := stOf 27 27 2 [(0, .val ⟨(.sl 47 x0z x0), [], false, none⟩), (1, .val ⟨(.sl 47 x1z x1), [], false, none⟩), (5, .val (V.s (.int .i64 x5)))] []
theorem laws_eqHeadS.s (k : Nat) (a0z : Bool) (a0 : List T) (a1z : Bool) (a1 : List T) : answer Tryz.prog laws_eqHeadS.Cs 100000 laws_eqHeadS.cuts [] Tryz.f67 (k + 1) [.v (.sl 47 a0z a0), .v (.sl 47 a1z a1)] = laws_eqHeadS.b (fun r => some (laws_eqHeadS.enc r)) (fun x0z x0 x1z x1 x5 => rounds Tryz.prog laws_eqHeadS.Cs (finish Tryz.prog [] Tryz.f67 [.v (.sl 47 a0z a0), .v (.sl 47 a1z a1)]) 100000 k laws_eqHeadS.K0 (laws_eqHeadS.N0 x0z x0 x1z x1 x5)) k a0z a0 a1z a1 := by kernel_rfl
theorem laws_eqHeadS.s0 (k : Nat) (G : List Fr → St → Option Res) (a0z : Bool) (a0 : List T) (a1z : Bool) (a1 : List T) (yx0z : Bool) (yx0 : List T) (yx1z : Bool) (yx1 : List T) (yx5 : Int) : resume Tryz.prog (laws_eqHeadS.Cs k) G (finish Tryz.prog [] Tryz.f67 [.v (.sl 47 a0z a0), .v (.sl 47 a1z a1)]) 100000 laws_eqHeadS.K0 (laws_eqHeadS.N0 yx0z yx0 yx1z yx1 yx5) = laws_eqHeadS.l0b (fun r => some (laws_eqHeadS.enc r)) (fun x0z x0 x1z x1 x5 => G laws_eqHeadS.K0 (laws_eqHeadS.N0 x0z x0 x1z x1 x5)) k yx0z yx0 yx1z yx1 yx5 := by kernel_rfl
theorem laws_eqHeadS.b_nat {R R' : Type} (e : R → R') (ret : Bool → Option R) (j0 : Bool → (List T) → Bool → (List T) → Int → Option R) (k : Nat) (a0z : Bool) (a0 : List T) (a1z : Bool) (a1 : List T) : laws_eqHeadS.b (fun r => (ret r).map e) (fun x0z x0 x1z x1 x5 => (j0 x0z x0 x1z x1 x5).map e) k a0z a0 a1z a1 = (laws_eqHeadS.b ret j0 k a0z a0 a1z a1).map e := by
  unfold laws_eqHeadS.b
  repeat' first | with_reducible refine nat_cond ?_ ?_ | with_reducible refine nat_bind fun _ => ?_ | rfl
theorem laws_eqHeadS.l0b_nat {R R' : Type} (e : R → R') (ret : Bool → Option R) (j0 : Bool → (List T) → Bool → (List T) → Int → Option R) (k : Nat) (x0z : Bool) (x0 : List T) (x1z : Bool) (x1 : List T) (x5 : Int) : laws_eqHeadS.l0b (fun r => (ret r).map e) (fun x0z x0 x1z x1 x5 => (j0 x0z x0 x1z x1 x5).map e) k x0z x0 x1z x1 x5 = (laws_eqHeadS.l0b ret j0 k x0z x0 x1z x1 x5).map e := by
  unfold laws_eqHeadS.l0b
  repeat' first | with_reducible refine nat_cond ?_ ?_ | with_reducible refine nat_bind fun _ => ?_ | rfl
theorem laws_eqHeadS.rounds_eq (a0z : Bool) (a0 : List T) (a1z : Bool) (a1 : List T) : ∀ k, (∀ (x0z : Bool) (x0 : List T) (x1z : Bool) (x1 : List T) (x5 : Int), rounds Tryz.prog laws_eqHeadS.Cs (finish Tryz.prog [] Tryz.f67 [.v (.sl 47 a0z a0), .v (.sl 47 a1z a1)]) 100000 k laws_eqHeadS.K0 (laws_eqHeadS.N0 x0z x0 x1z x1 x5) = (laws_eqHeadS.l0 k x0z x0 x1z x1 x5).map laws_eqHeadS.enc)
  | 0 => fun _ _ _ _ _ => rfl
  | k + 1 => by
    have ih := laws_eqHeadS.rounds_eq a0z a0 a1z a1 k
    refine fun _ _ _ _ _ => ?_
    · refine (laws_eqHeadS.s0 k _ a0z a0 a1z a1 _ _ _ _ _).trans (Eq.trans ?_ (laws_eqHeadS.l0b_nat laws_eqHeadS.enc some (laws_eqHeadS.l0 k) k _ _ _ _ _))
      simp only [ih, Option.map_some]
theorem laws_eqHeadS.eq (k : Nat) (a0z : Bool) (a0 : List T) (a1z : Bool) (a1 : List T) : answer Tryz.prog laws_eqHeadS.Cs 100000 laws_eqHeadS.cuts [] Tryz.f67 (k + 1) [.v (.sl 47 a0z a0), .v (.sl 47 a1z a1)] = (laws_eqHeadS.f (k + 1) a0z a0 a1z a1).map laws_eqHeadS.enc := by
  have ih := laws_eqHeadS.rounds_eq a0z a0 a1z a1 k
  refine (laws_eqHeadS.s k a0z a0 a1z a1).trans (Eq.trans ?_ (laws_eqHeadS.b_nat laws_eqHeadS.enc some (laws_eqHeadS.l0 k) k a0z a0 a1z a1))
  simp only [ih, Option.map_some]
theorem laws_eqHeadS.sound (k : Nat) : SoundF Tryz.prog 67 (fun a => (laws_eqHeadS.ans k a).val) := by
  refine sound_plain (fun args res h => ?_) (fun t n => rfl)
  unfold laws_eqHeadS.ans at h
  dsimp only at h
  split at h
  · cases k with
    | zero => cases h
    | succ k =>
      unfold Ans.val at h
      rw [← laws_eqHeadS.eq] at h
      exact answer_sound mixed Tryz.func67 _ _ _ (k + 1) (fun j _ => tab_sound (tab_cons (laws_eqHead.sound j) (tab_nil))) _ _ h
  · exact (Ans.no_val h).elim

/-! loop.example/g00790/laws.eqProof -/
def laws_eqProof.b {R : Type} (ret : Bool → Option R) (k : Nat) (a0_0z : Bool) (a0_0 : List T) (a0_1 : Int) (a0_2 : Int) (a0_3z : Bool) (a0_3 : List Int) (a0_4z : Bool) (a0_4 : List Int) (a0_5z : Bool) (a0_5 : List T) (a1_0z : Bool) (a1_0 : List T) (a1_1 : Int) (a1_2 : Int) (a1_3z : Bool) (a1_3 : List Int) (a1_4z : Bool) (a1_4 : List Int) (a1_5z : Bool) (a1_5 : List T) : Option R :=
  (laws_eqHeadS.f k a0_0z a0_0 a1_0z a1_0).bind fun t0 => cond (!t0) (ret false) ((laws_eqQc.f k a0_1 a0_2 a0_3z a0_3 a0_4z a0_4 a0_5z a0_5 a1_1 a1_2 a1_3z a1_3 a1_4z a1_4 a1_5z a1_5).bind fun t1 => cond (!t1) (ret false) (ret true))
def laws_eqProof.f : Nat → Bool → (List T) → Int → Int → Bool → (List Int) → Bool → (List Int) → Bool → (List T) → Bool → (List T) → Int → Int → Bool → (List Int) → Bool → (List Int) → Bool → (List T) → Option Bool
  | 0, _, _, _, _, _, _, _, _, _, _, _, _, _, _, _, _, _, _, _, _ => none
  | k + 1, a0_0z, a0_0, a0_1, a0_2, a0_3z, a0_3, a0_4z, a0_4, a0_5z, a0_5, a1_0z, a1_0, a1_1, a1_2, a1_3z, a1_3, a1_4z, a1_4, a1_5z, a1_5 => laws_eqProof.b some k a0_0z a0_0 a0_1 a0_2 a0_3z a0_3 a0_4z a0_4 a0_5z a0_5 a1_0z a1_0 a1_1 a1_2 a1_3z a1_3 a1_4z a1_4 a1_5z a1_5
def laws_eqProof.enc (r : Bool) : Res := ⟨[.vals false [((.bool r), true)]], []⟩
def laws_eqProof.ans (k : Nat) : List Arg → Ans
  | [.v (.agg [(.sl 47 a0_0z a0_0), (.int .i64 a0_1), (.int .i64 a0_2), (.nums 5 .u8 a0_3z a0_3), (.nums 5 .u8 a0_4z a0_4), (.sl 22 a0_5z a0_5)]), .v (.agg [(.sl 47 a1_0z a1_0), (.int .i64 a1_1), (.int .i64 a1_2), (.nums 5 .u8 a1_3z a1_3), (.nums 5 .u8 a1_4z a1_4), (.sl 22 a1_5z a1_5)])] => ⟨laws_eqProof.f k a0_0z a0_0 a0_1 a0_2 a0_3z a0_3 a0_4z a0_4 a0_5z a0_5 a1_0z a1_0 a1_1 a1_2 a1_3z a1_3 a1_4z a1_4 a1_5z a1_5, laws_eqProof.enc⟩
  | _ => Ans.no
def laws_eqProof.Cs (k : Nat) : CallSem := tab [(38, laws_eqQc.ans k), (67, laws_eqHeadS.ans k)]
def laws_eqProof.cuts : List (Nat × Keep) := []
theorem laws_eqProof.s (k : Nat) (a0_0z : Bool) (a0_0 : List T) (a0_1 : Int) (a0_2 : Int) (a0_3z : Bool) (a0_3 : List Int) (a0_4z : Bool) (a0_4 : List Int) (a0_5z : Bool) (a0_5 : List T) (a1_0z : Bool) (a1_0 : List T) (a1_1 : Int) (a1_2 : Int) (a1_3z : Bool) (a1_3 : List Int) (a1_4z : Bool) (a1_4 : List Int) (a1_5z : Bool) (a1_5 : List T) : answer Tryz.prog laws_eqProof.Cs 100000 laws_eqProof.cuts [] Tryz.f42 (k + 1) [.v (.agg [(.sl 47 a0_0z a0_0), (.int .i64 a0_1), (.int .i64 a0_2), (.nums 5 .u8 a0_3z a0_3), (.nums 5 .u8 a0_4z a0_4), (.sl 22 a0_5z a0_5)]), .v (.agg [(.sl 47 a1_0z a1_0), (.int .i64 a1_1), (.int .i64 a1_2), (.nums 5 .u8 a1_3z a1_3), (.nums 5 .u8 a1_4z a1_4), (.sl 22 a1_5z a1_5)])] = laws_eqProof.b (fun r => some (laws_eqProof.enc r)) k a0_0z a0_0 a0_1 a0_2 a0_3z a0_3 a0_4z a0_4 a0_5z a0_5 a1_0z a1_0 a1_1 a1_2 a1_3z a1_3 a1_4z a1_4 a1_5z a1_5 := by kernel_rfl
theorem laws_eqProof.b_nat {R R' : Type} (e : R → R') (ret : Bool → Option R) (k : Nat) (a0_0z : Bool) (a0_0 : List T) (a0_1 : Int) (a0_2 : Int) (a0_3z : Bool) (a0_3 : List Int) (a0_4z : Bool) (a0_4 : List Int) (a0_5z : Bool) (a0_5 : List T) (a1_0z : Bool) (a1_0 : List T) (a1_1 : Int) (a1_2 : Int) (a1_3z : Bool) (a1_3 : List Int) (a1_4z : Bool) (a1_4 : List Int) (a1_5z : Bool) (a1_5 : List T) : laws_eqProof.b (fun r => (ret r).map e) k a0_0z a0_0 a0_1 a0_2 a0_3z a0_3 a0_4z a0_4 a0_5z a0_5 a1_0z a1_0 a1_1 a1_2 a1_3z a1_3 a1_4z a1_4 a1_5z a1_5 = (laws_eqProof.b ret k a0_0z a0_0 a0_1 a0_2 a0_3z a0_3 a0_4z a0_4 a0_5z a0_5 a1_0z a1_0 a1_1 a1_2 a1_3z a1_3 a1_4z a1_4 a1_5z a1_5).map e := by
  unfold laws_eqProof.b
  repeat' first | with_reducible refine nat_cond ?_ ?_ | with_reducible refine nat_bind fun _ => ?_ | rfl
theorem laws_eqProof.eq (k : Nat) (a0_0z : Bool) (a0_0 : List T) (a0_1 : Int) (a0_2 : Int) (a0_3z : Bool) (a0_3 : List Int) (a0_4z : Bool) (a0_4 : List Int) (a0_5z : Bool) (a0_5 : List T) (a1_0z : Bool) (a1_0 : List T) (a1_1 : Int) (a1_2 : Int) (a1_3z : Bool) (a1_3 : List Int) (a1_4z : Bool) (a1_4 : List Int) (a1_5z : Bool) (a1_5 : List T) : answer Tryz.prog laws_eqProof.Cs 100000 laws_eqProof.cuts [] Tryz.f42 (k + 1) [.v (.agg [(.sl 47 a0_0z a0_0), (.int .i64 a0_1), (.int .i64 a0_2), (.nums 5 .u8 a0_3z a0_3), (.nums 5 .u8 a0_4z a0_4), (.sl 22 a0_5z a0_5)]), .v (.agg [(.sl 47 a1_0z a1_0), (.int .i64 a1_1), (.int .i64 a1_2), (.nums 5 .u8 a1_3z a1_3), (.nums 5 .u8 a1_4z a1_4), (.sl 22 a1_5z a1_5)])] = (laws_eqProof.f (k + 1) a0_0z a0_0 a0_1 a0_2 a0_3z a0_3 a0_4z a0_4 a0_5z a0_5 a1_0z a1_0 a1_1 a1_2 a1_3z a1_3 a1_4z a1_4 a1_5z a1_5).map laws_eqProof.enc := by
  refine (laws_eqProof.s k a0_0z a0_0 a0_1 a0_2 a0_3z a0_3 a0_4z a0_4 a0_5z a0_5 a1_0z a1_0 a1_1 a1_2 a1_3z a1_3 a1_4z a1_4 a1_5z a1_5).trans (Eq.trans ?_ (laws_eqProof.b_nat laws_eqProof.enc some k a0_0z a0_0 a0_1 a0_2 a0_3z a0_3 a0_4z a0_4 a0_5z a0_5 a1_0z a1_0 a1_1 a1_2 a1_3z a1_3 a1_4z a1_4 a1_5z a1_5))
  simp only [Option.map_some]
theorem laws_eqProof.sound (k : Nat) : SoundF Tryz.prog 42 (fun a => (laws_eqProof.ans k a).val) := by
  refine sound_plain (fun args res h => ?_) (fun t n => rfl)
  unfold laws_eqProof.ans at h
  dsimp only at h
  split at h
  · cases k with
    | zero => cases h
    | succ k =>
      unfold Ans.val at h
      rw [← laws_eqProof.eq] at h
      exact answer_sound mixed Tryz.func42 _ _ _ (k + 1) (fun j _ => tab_sound (tab_cons (laws_eqQc.sound j) (tab_cons (laws_eqHeadS.sound j) (tab_nil)))) _ _ h
  · exact (Ans.no_val h).elim

end Go.Proofs.YtjffolalgcmhaaaGreatDoorG
