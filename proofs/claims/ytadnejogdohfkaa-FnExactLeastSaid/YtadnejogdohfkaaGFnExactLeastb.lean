/- What the functions compute, printed by a program of this repo; each is shown to be what the machine of values answers. No condition. -/
import Derived.Test.YtadnejogdohfkaaProg
import Derived.KernelRfl
import Derived.Test.YtadnejogdohfkaaGFnExactLeasta
namespace Go.Proofs.YtadnejogdohfkaaG
open Go Go.Proofs.YtadnejogdohfkaaRv Go.Proofs
set_option linter.unusedVariables false
set_option linter.unusedSimpArgs false
/-! loop.example/g00790/impl.BitsOf -/
def impl_BitsOf.b {R : Type} (ret : Bool × (List Int) × Bool → Option R) (j0 : Int → Bool → (List Int) → Bool → (List Int) → Int → Int → Option R) (k : Nat) (a0z : Bool) (a0 : List Int) (a1 : Int) : Option R :=
  (impl_within.f k a1 1 10).bind fun t0 => cond (!t0) (ret (true, ([] : List Int), false)) ((impl_BitsNew.f k a1).bind fun t1 => j0 a1 t1.1 t1.2 a0z a0 ((a0).length : Int) 0)
def impl_BitsOf.l0b {R : Type} (ret : Bool × (List Int) × Bool → Option R) (j0 : Int → Bool → (List Int) → Bool → (List Int) → Int → Int → Option R) (k : Nat) (x1 : Int) (x6z : Bool) (x6 : List Int) (x14z : Bool) (x14 : List Int) (x15 : Int) (x16 : Int) : Option R :=
  cond (decide (x16 < x15)) (cond (decide ((0 : Int) ≤ x16)) (cond (decide (x16 < ((x14).length : Int))) ((impl_within.f k (rdI x14 x16) 0 (RowKit.wrap64 (x1 - 1))).bind fun t0 => cond (!t0) (ret (true, ([] : List Int), false)) (cond (decide ((0 : Int) ≤ (RowKit.wrap64 (Int.tdiv (rdI x14 x16) 8)))) (cond (decide ((RowKit.wrap64 (Int.tdiv (rdI x14 x16) 8)) < ((x6).length : Int))) (cond (decide ((0 : Int) ≤ (Int.tmod (rdI x14 x16) 8))) (cond (decide ((0 : Int) ≤ (RowKit.wrap64 (Int.tdiv (rdI x14 x16) 8)))) (cond (decide ((RowKit.wrap64 (Int.tdiv (rdI x14 x16) 8)) < ((x6).length : Int))) (j0 x1 x6z ((x6).set ((RowKit.wrap64 (Int.tdiv (rdI x14 x16) 8))).toNat (Go.bits .or .u8 (rdI x6 (RowKit.wrap64 (Int.tdiv (rdI x14 x16) 8))) (shlI .u8 1 (Int.tmod (rdI x14 x16) 8)))) x14z x14 x15 (RowKit.wrap64 (x16 + 1))) (none)) (none)) (none)) (none)) (none))) (none)) (none)) (ret (x6z, x6, true))
def impl_BitsOf.l0 : Nat → Int → Bool → (List Int) → Bool → (List Int) → Int → Int → Option (Bool × (List Int) × Bool)
  | 0, _, _, _, _, _, _, _ => none
  | k + 1, x1, x6z, x6, x14z, x14, x15, x16 => impl_BitsOf.l0b some (impl_BitsOf.l0 k) k x1 x6z x6 x14z x14 x15 x16
def impl_BitsOf.f : Nat → Bool → (List Int) → Int → Option (Bool × (List Int) × Bool)
  | 0, _, _, _ => none
  | k + 1, a0z, a0, a1 => impl_BitsOf.b some (impl_BitsOf.l0 k) k a0z a0 a1
def impl_BitsOf.enc (r : Bool × (List Int) × Bool) : Res := ⟨[.vals false [((.nums 5 .u8 r.1 r.2.1), true)], .vals false [((.bool r.2.2), true)]], []⟩
def impl_BitsOf.ans (k : Nat) : List Arg → Ans
  | [.v (.nums 3 .i64 a0z a0), .v (.int .i64 a1)] => ⟨impl_BitsOf.f k a0z a0 a1, impl_BitsOf.enc⟩
  | _ => Ans.no
def impl_BitsOf.Cs (k : Nat) : CallSem := tab [(126, impl_within.ans k), (208, impl_BitsNew.ans k)]
def impl_BitsOf.cuts : List (Nat × Keep) := [(122, ⟨[(1, some []), (6, none), (14, some []), (15, some []), (16, some [])], []⟩)]
noncomputable def impl_BitsOf.K0 : List Fr := framesAt [true, true, true, false, true, false] (bodyOf Try.f181 impl_BitsOf.cuts) []
def impl_BitsOf.N0 (x1 : Int) (x6z : Bool) (x6 : List Int) (x14z : Bool) (x14 : List Int) (x15 : Int) (x16 : Int) : St := stOf 37 37 2 [(1, .val (V.s (.int .i64 x1))), (6, .val ⟨(.nums 5 .u8 x6z x6), [.l 6 0], true, some (.l 6 0)⟩), (14, .val ⟨(.nums 3 .i64 x14z x14), [], false, none⟩), (15, .val (V.s (.int .i64 x15))), (16, .val (V.s (.int .i64 x16)))] []
theorem impl_BitsOf.s (k : Nat) (a0z : Bool) (a0 : List Int) (a1 : Int) : answer Try.prog impl_BitsOf.Cs 100000 impl_BitsOf.cuts [] Try.f181 (k + 1) [.v (.nums 3 .i64 a0z a0), .v (.int .i64 a1)] = impl_BitsOf.b (fun r => some (impl_BitsOf.enc r)) (fun x1 x6z x6 x14z x14 x15 x16 => rounds Try.prog impl_BitsOf.Cs (finish Try.prog [] Try.f181 [.v (.nums 3 .i64 a0z a0), .v (.int .i64 a1)]) 100000 k impl_BitsOf.K0 (impl_BitsOf.N0 x1 x6z x6 x14z x14 x15 x16)) k a0z a0 a1 := by kernel_rfl
theorem impl_BitsOf.s0 (k : Nat) (G : List Fr → St → Option Res) (a0z : Bool) (a0 : List Int) (a1 : Int) (yx1 : Int) (yx6z : Bool) (yx6 : List Int) (yx14z : Bool) (yx14 : List Int) (yx15 : Int) (yx16 : Int) : resume Try.prog (impl_BitsOf.Cs k) G (finish Try.prog [] Try.f181 [.v (.nums 3 .i64 a0z a0), .v (.int .i64 a1)]) 100000 impl_BitsOf.K0 (impl_BitsOf.N0 yx1 yx6z yx6 yx14z yx14 yx15 yx16) = impl_BitsOf.l0b (fun r => some (impl_BitsOf.enc r)) (fun x1 x6z x6 x14z x14 x15 x16 => G impl_BitsOf.K0 (impl_BitsOf.N0 x1 x6z x6 x14z x14 x15 x16)) k yx1 yx6z yx6 yx14z yx14 yx15 yx16 := by kernel_rfl
theorem impl_BitsOf.b_nat {R R' : Type} (e : R → R') (ret : Bool × (List Int) × Bool → Option R) (j0 : Int → Bool → (List Int) → Bool → (List Int) → Int → Int → Option R) (k : Nat) (a0z : Bool) (a0 : List Int) (a1 : Int) : impl_BitsOf.b (fun r => (ret r).map e) (fun x1 x6z x6 x14z x14 x15 x16 => (j0 x1 x6z x6 x14z x14 x15 x16).map e) k a0z a0 a1 = (impl_BitsOf.b ret j0 k a0z a0 a1).map e := by
  unfold impl_BitsOf.b
  repeat' first | with_reducible refine nat_cond ?_ ?_ | with_reducible refine nat_bind fun _ => ?_ | rfl
theorem impl_BitsOf.l0b_nat {R R' : Type} (e : R → R') (ret : Bool × (List Int) × Bool → Option R) (j0 : Int → Bool → (List Int) → Bool → (List Int) → Int → Int → Option R) (k : Nat) (x1 : Int) (x6z : Bool) (x6 : List Int) (x14z : Bool) (x14 : List Int) (x15 : Int) (x16 : Int) : impl_BitsOf.l0b (fun r => (ret r).map e) (fun x1 x6z x6 x14z x14 x15 x16 => (j0 x1 x6z x6 x14z x14 x15 x16).map e) k x1 x6z x6 x14z x14 x15 x16 = (impl_BitsOf.l0b ret j0 k x1 x6z x6 x14z x14 x15 x16).map e := by
  unfold impl_BitsOf.l0b
  repeat' first | with_reducible refine nat_cond ?_ ?_ | with_reducible refine nat_bind fun _ => ?_ | rfl
theorem impl_BitsOf.rounds_eq (a0z : Bool) (a0 : List Int) (a1 : Int) : ∀ k, (∀ (x1 : Int) (x6z : Bool) (x6 : List Int) (x14z : Bool) (x14 : List Int) (x15 : Int) (x16 : Int), rounds Try.prog impl_BitsOf.Cs (finish Try.prog [] Try.f181 [.v (.nums 3 .i64 a0z a0), .v (.int .i64 a1)]) 100000 k impl_BitsOf.K0 (impl_BitsOf.N0 x1 x6z x6 x14z x14 x15 x16) = (impl_BitsOf.l0 k x1 x6z x6 x14z x14 x15 x16).map impl_BitsOf.enc)
  | 0 => fun _ _ _ _ _ _ _ => rfl
  | k + 1 => by
    have ih := impl_BitsOf.rounds_eq a0z a0 a1 k
    refine fun _ _ _ _ _ _ _ => ?_
    · refine (impl_BitsOf.s0 k _ a0z a0 a1 _ _ _ _ _ _ _).trans (Eq.trans ?_ (impl_BitsOf.l0b_nat impl_BitsOf.enc some (impl_BitsOf.l0 k) k _ _ _ _ _ _ _))
      simp only [ih, Option.map_some]
theorem impl_BitsOf.eq (k : Nat) (a0z : Bool) (a0 : List Int) (a1 : Int) : answer Try.prog impl_BitsOf.Cs 100000 impl_BitsOf.cuts [] Try.f181 (k + 1) [.v (.nums 3 .i64 a0z a0), .v (.int .i64 a1)] = (impl_BitsOf.f (k + 1) a0z a0 a1).map impl_BitsOf.enc := by
  have ih := impl_BitsOf.rounds_eq a0z a0 a1 k
  refine (impl_BitsOf.s k a0z a0 a1).trans (Eq.trans ?_ (impl_BitsOf.b_nat impl_BitsOf.enc some (impl_BitsOf.l0 k) k a0z a0 a1))
  simp only [ih, Option.map_some]
theorem impl_BitsOf.sound (k : Nat) : SoundF Try.prog 181 (fun a => (impl_BitsOf.ans k a).val) := by
  refine sound_plain (fun args res h => ?_) (fun t n => rfl)
  unfold impl_BitsOf.ans at h
  dsimp only at h
  split at h
  · cases k with
    | zero => cases h
    | succ k =>
      unfold Ans.val at h
      rw [← impl_BitsOf.eq] at h
      exact answer_sound mixed Try.func181 _ _ _ (k + 1) (fun j _ => tab_sound (tab_cons (impl_within.sound j) (tab_cons (impl_BitsNew.sound j) (tab_nil)))) _ _ h
  · exact (Ans.no_val h).elim

/-! loop.example/g00790/impl.BitsHas -/
def impl_BitsHas.b {R : Type} (ret : Bool → Option R) (k : Nat) (a0z : Bool) (a0 : List Int) (a1 : Int) : Option R :=
  (impl_within.f k a1 0 (RowKit.wrap64 ((RowKit.wrap64 ((8 : Int) * ((a0).length : Int))) - 1))).bind fun t0 => cond t0 (cond (decide ((0 : Int) ≤ (RowKit.wrap64 (Int.tdiv a1 8)))) (cond (decide ((RowKit.wrap64 (Int.tdiv a1 8)) < ((a0).length : Int))) (cond (decide ((0 : Int) ≤ (Int.tmod a1 8))) (ret (decide ((Go.bits .and .u8 (shrI .u8 (rdI a0 (RowKit.wrap64 (Int.tdiv a1 8))) (Int.tmod a1 8)) 1) = 1))) (none)) (none)) (none)) (ret false)
def impl_BitsHas.f : Nat → Bool → (List Int) → Int → Option Bool
  | 0, _, _, _ => none
  | k + 1, a0z, a0, a1 => impl_BitsHas.b some k a0z a0 a1
def impl_BitsHas.enc (r : Bool) : Res := ⟨[.vals false [((.bool r), true)]], []⟩
def impl_BitsHas.ans (k : Nat) : List Arg → Ans
  | [.v (.nums 5 .u8 a0z a0), .v (.int .i64 a1)] => ⟨impl_BitsHas.f k a0z a0 a1, impl_BitsHas.enc⟩
  | _ => Ans.no
def impl_BitsHas.Cs (k : Nat) : CallSem := tab [(126, impl_within.ans k)]
def impl_BitsHas.cuts : List (Nat × Keep) := []
theorem impl_BitsHas.s (k : Nat) (a0z : Bool) (a0 : List Int) (a1 : Int) : answer Try.prog impl_BitsHas.Cs 100000 impl_BitsHas.cuts [] Try.f190 (k + 1) [.v (.nums 5 .u8 a0z a0), .v (.int .i64 a1)] = impl_BitsHas.b (fun r => some (impl_BitsHas.enc r)) k a0z a0 a1 := by kernel_rfl
theorem impl_BitsHas.b_nat {R R' : Type} (e : R → R') (ret : Bool → Option R) (k : Nat) (a0z : Bool) (a0 : List Int) (a1 : Int) : impl_BitsHas.b (fun r => (ret r).map e) k a0z a0 a1 = (impl_BitsHas.b ret k a0z a0 a1).map e := by
  unfold impl_BitsHas.b
  repeat' first | with_reducible refine nat_cond ?_ ?_ | with_reducible refine nat_bind fun _ => ?_ | rfl
theorem impl_BitsHas.eq (k : Nat) (a0z : Bool) (a0 : List Int) (a1 : Int) : answer Try.prog impl_BitsHas.Cs 100000 impl_BitsHas.cuts [] Try.f190 (k + 1) [.v (.nums 5 .u8 a0z a0), .v (.int .i64 a1)] = (impl_BitsHas.f (k + 1) a0z a0 a1).map impl_BitsHas.enc := by
  refine (impl_BitsHas.s k a0z a0 a1).trans (Eq.trans ?_ (impl_BitsHas.b_nat impl_BitsHas.enc some k a0z a0 a1))
  simp only [Option.map_some]
theorem impl_BitsHas.sound (k : Nat) : SoundF Try.prog 190 (fun a => (impl_BitsHas.ans k a).val) := by
  refine sound_plain (fun args res h => ?_) (fun t n => rfl)
  unfold impl_BitsHas.ans at h
  dsimp only at h
  split at h
  · cases k with
    | zero => cases h
    | succ k =>
      unfold Ans.val at h
      rw [← impl_BitsHas.eq] at h
      exact answer_sound mixed Try.func190 _ _ _ (k + 1) (fun j _ => tab_sound (tab_cons (impl_within.sound j) (tab_nil))) _ _ h
  · exact (Ans.no_val h).elim

/-! loop.example/g00790/impl.BitsList -/
def impl_BitsList.b {R : Type} (ret : Bool × List Int → Option R) (j0 : Bool → (List Int) → (List Int) → Int → Int → Option R) (k : Nat) (a0z : Bool) (a0 : List Int) : Option R :=
  j0 a0z a0 ([] : List Int) (RowKit.wrap64 ((8 : Int) * ((a0).length : Int))) 0
def impl_BitsList.l0b {R : Type} (ret : Bool × List Int → Option R) (j0 : Bool → (List Int) → (List Int) → Int → Int → Option R) (k : Nat) (x0z : Bool) (x0 : List Int) (x3 : List Int) (x8 : Int) (x9 : Int) : Option R :=
  cond (decide (x9 < x8)) ((impl_BitsHas.f k x0z x0 x9).bind fun t0 => cond t0 (cond (decide ((x3).length + 1 < 17592186044416)) (j0 x0z x0 (x3 ++ ([x9] : List Int)) x8 (RowKit.wrap64 (x9 + 1))) (none)) (j0 x0z x0 x3 x8 (RowKit.wrap64 (x9 + 1)))) (ret (false, x3))
def impl_BitsList.l0 : Nat → Bool → (List Int) → (List Int) → Int → Int → Option (Bool × List Int)
  | 0, _, _, _, _, _ => none
  | k + 1, x0z, x0, x3, x8, x9 => impl_BitsList.l0b some (impl_BitsList.l0 k) k x0z x0 x3 x8 x9
def impl_BitsList.f : Nat → Bool → (List Int) → Option (Bool × List Int)
  | 0, _, _ => none
  | k + 1, a0z, a0 => impl_BitsList.b some (impl_BitsList.l0 k) k a0z a0
def impl_BitsList.enc (r : Bool × List Int) : Res := ⟨[.vals false [((.nums 3 .i64 r.1 r.2), true)]], []⟩
def impl_BitsList.ans (k : Nat) : List Arg → Ans
  | [.v (.nums 5 .u8 a0z a0)] => ⟨impl_BitsList.f k a0z a0, impl_BitsList.enc⟩
  | _ => Ans.no
def impl_BitsList.Cs (k : Nat) : CallSem := tab [(190, impl_BitsHas.ans k)]
def impl_BitsList.cuts : List (Nat × Keep) := [(58, ⟨[(0, some []), (3, none), (8, some []), (9, some [])], []⟩)]
noncomputable def impl_BitsList.K0 : List Fr := framesAt [true, true, false, true, false] (bodyOf Try.f140 impl_BitsList.cuts) []
def impl_BitsList.N0 (x0z : Bool) (x0 : List Int) (x3 : List Int) (x8 : Int) (x9 : Int) : St := stOf 21 21 1 [(0, .val ⟨(.nums 5 .u8 x0z x0), [], false, none⟩), (3, .val ⟨(.nums 3 .i64 false x3), [.l 3 0], true, some (.l 3 0)⟩), (8, .val (V.s (.int .i64 x8))), (9, .val (V.s (.int .i64 x9)))] []
theorem impl_BitsList.s (k : Nat) (a0z : Bool) (a0 : List Int) : answer Try.prog impl_BitsList.Cs 100000 impl_BitsList.cuts [] Try.f140 (k + 1) [.v (.nums 5 .u8 a0z a0)] = impl_BitsList.b (fun r => some (impl_BitsList.enc r)) (fun x0z x0 x3 x8 x9 => rounds Try.prog impl_BitsList.Cs (finish Try.prog [] Try.f140 [.v (.nums 5 .u8 a0z a0)]) 100000 k impl_BitsList.K0 (impl_BitsList.N0 x0z x0 x3 x8 x9)) k a0z a0 := by kernel_rfl
theorem impl_BitsList.s0 (k : Nat) (G : List Fr → St → Option Res) (a0z : Bool) (a0 : List Int) (yx0z : Bool) (yx0 : List Int) (yx3 : List Int) (yx8 : Int) (yx9 : Int) : resume Try.prog (impl_BitsList.Cs k) G (finish Try.prog [] Try.f140 [.v (.nums 5 .u8 a0z a0)]) 100000 impl_BitsList.K0 (impl_BitsList.N0 yx0z yx0 yx3 yx8 yx9) = impl_BitsList.l0b (fun r => some (impl_BitsList.enc r)) (fun x0z x0 x3 x8 x9 => G impl_BitsList.K0 (impl_BitsList.N0 x0z x0 x3 x8 x9)) k yx0z yx0 yx3 yx8 yx9 := by kernel_rfl
theorem impl_BitsList.b_nat {R R' : Type} (e : R → R') (ret : Bool × List Int → Option R) (j0 : Bool → (List Int) → (List Int) → Int → Int → Option R) (k : Nat) (a0z : Bool) (a0 : List Int) : impl_BitsList.b (fun r => (ret r).map e) (fun x0z x0 x3 x8 x9 => (j0 x0z x0 x3 x8 x9).map e) k a0z a0 = (impl_BitsList.b ret j0 k a0z a0).map e := by
  unfold impl_BitsList.b
  repeat' first | with_reducible refine nat_cond ?_ ?_ | with_reducible refine nat_bind fun _ => ?_ | rfl
theorem impl_BitsList.l0b_nat {R R' : Type} (e : R → R') (ret : Bool × List Int → Option R) (j0 : Bool → (List Int) → (List Int) → Int → Int → Option R) (k : Nat) (x0z : Bool) (x0 : List Int) (x3 : List Int) (x8 : Int) (x9 : Int) : impl_BitsList.l0b (fun r => (ret r).map e) (fun x0z x0 x3 x8 x9 => (j0 x0z x0 x3 x8 x9).map e) k x0z x0 x3 x8 x9 = (impl_BitsList.l0b ret j0 k x0z x0 x3 x8 x9).map e := by
  unfold impl_BitsList.l0b
  repeat' first | with_reducible refine nat_cond ?_ ?_ | with_reducible refine nat_bind fun _ => ?_ | rfl
theorem impl_BitsList.rounds_eq (a0z : Bool) (a0 : List Int) : ∀ k, (∀ (x0z : Bool) (x0 : List Int) (x3 : List Int) (x8 : Int) (x9 : Int), rounds Try.prog impl_BitsList.Cs (finish Try.prog [] Try.f140 [.v (.nums 5 .u8 a0z a0)]) 100000 k impl_BitsList.K0 (impl_BitsList.N0 x0z x0 x3 x8 x9) = (impl_BitsList.l0 k x0z x0 x3 x8 x9).map impl_BitsList.enc)
  | 0 => fun _ _ _ _ _ => rfl
  | k + 1 => by
    have ih := impl_BitsList.rounds_eq a0z a0 k
    refine fun _ _ _ _ _ => ?_
    · refine (impl_BitsList.s0 k _ a0z a0 _ _ _ _ _).trans (Eq.trans ?_ (impl_BitsList.l0b_nat impl_BitsList.enc some (impl_BitsList.l0 k) k _ _ _ _ _))
      simp only [ih, Option.map_some]
theorem impl_BitsList.eq (k : Nat) (a0z : Bool) (a0 : List Int) : answer Try.prog impl_BitsList.Cs 100000 impl_BitsList.cuts [] Try.f140 (k + 1) [.v (.nums 5 .u8 a0z a0)] = (impl_BitsList.f (k + 1) a0z a0).map impl_BitsList.enc := by
  have ih := impl_BitsList.rounds_eq a0z a0 k
  refine (impl_BitsList.s k a0z a0).trans (Eq.trans ?_ (impl_BitsList.b_nat impl_BitsList.enc some (impl_BitsList.l0 k) k a0z a0))
  simp only [ih, Option.map_some]
theorem impl_BitsList.sound (k : Nat) : SoundF Try.prog 140 (fun a => (impl_BitsList.ans k a).val) := by
  refine sound_plain (fun args res h => ?_) (fun t n => rfl)
  unfold impl_BitsList.ans at h
  dsimp only at h
  split at h
  · cases k with
    | zero => cases h
    | succ k =>
      unfold Ans.val at h
      rw [← impl_BitsList.eq] at h
      exact answer_sound mixed Try.func140 _ _ _ (k + 1) (fun j _ => tab_sound (tab_cons (impl_BitsHas.sound j) (tab_nil))) _ _ h
  · exact (Ans.no_val h).elim

/-! loop.example/g00790/impl.BitsOk -/
def impl_BitsOk.b {R : Type} (ret : Bool → Option R) (j0 : Int → Bool → (List Int) → Int → Int → Option R) (k : Nat) (a0z : Bool) (a0 : List Int) (a1 : Int) : Option R :=
  (impl_within.f k a1 1 10).bind fun t0 => cond (!t0) (ret false) ((impl_BitsSize.f k a1).bind fun t1 => cond (!(decide (((a0).length : Int) = t1))) (ret false) ((impl_BitsList.f k a0z a0).bind fun t2 => j0 a1 t2.1 t2.2 ((t2.2).length : Int) 0))
def impl_BitsOk.l0b {R : Type} (ret : Bool → Option R) (j0 : Int → Bool → (List Int) → Int → Int → Option R) (k : Nat) (x1 : Int) (x18z : Bool) (x18 : List Int) (x19 : Int) (x20 : Int) : Option R :=
  cond (decide (x20 < x19)) (cond (decide ((0 : Int) ≤ x20)) (cond (decide (x20 < ((x18).length : Int))) (cond (decide ((rdI x18 x20) ≥ x1)) (ret false) (j0 x1 x18z x18 x19 (RowKit.wrap64 (x20 + 1)))) (none)) (none)) (ret true)
def impl_BitsOk.l0 : Nat → Int → Bool → (List Int) → Int → Int → Option Bool
  | 0, _, _, _, _, _ => none
  | k + 1, x1, x18z, x18, x19, x20 => impl_BitsOk.l0b some (impl_BitsOk.l0 k) k x1 x18z x18 x19 x20
def impl_BitsOk.f : Nat → Bool → (List Int) → Int → Option Bool
  | 0, _, _, _ => none
  | k + 1, a0z, a0, a1 => impl_BitsOk.b some (impl_BitsOk.l0 k) k a0z a0 a1
def impl_BitsOk.enc (r : Bool) : Res := ⟨[.vals false [((.bool r), true)]], []⟩
def impl_BitsOk.ans (k : Nat) : List Arg → Ans
  | [.v (.nums 5 .u8 a0z a0), .v (.int .i64 a1)] => ⟨impl_BitsOk.f k a0z a0 a1, impl_BitsOk.enc⟩
  | _ => Ans.no
def impl_BitsOk.Cs (k : Nat) : CallSem := tab [(126, impl_within.ans k), (189, impl_BitsSize.ans k), (140, impl_BitsList.ans k)]
def impl_BitsOk.cuts : List (Nat × Keep) := [(58, ⟨[(1, some []), (18, none), (19, some []), (20, some [])], []⟩)]
noncomputable def impl_BitsOk.K0 : List Fr := framesAt [true, true, false, true, false] (bodyOf Try.f139 impl_BitsOk.cuts) []
def impl_BitsOk.N0 (x1 : Int) (x18z : Bool) (x18 : List Int) (x19 : Int) (x20 : Int) : St := stOf 28 28 2 [(1, .val (V.s (.int .i64 x1))), (18, .val ⟨(.nums 3 .i64 x18z x18), [.l 18 0], true, some (.l 18 0)⟩), (19, .val (V.s (.int .i64 x19))), (20, .val (V.s (.int .i64 x20)))] []
theorem impl_BitsOk.s (k : Nat) (a0z : Bool) (a0 : List Int) (a1 : Int) : answer Try.prog impl_BitsOk.Cs 100000 impl_BitsOk.cuts [] Try.f139 (k + 1) [.v (.nums 5 .u8 a0z a0), .v (.int .i64 a1)] = impl_BitsOk.b (fun r => some (impl_BitsOk.enc r)) (fun x1 x18z x18 x19 x20 => rounds Try.prog impl_BitsOk.Cs (finish Try.prog [] Try.f139 [.v (.nums 5 .u8 a0z a0), .v (.int .i64 a1)]) 100000 k impl_BitsOk.K0 (impl_BitsOk.N0 x1 x18z x18 x19 x20)) k a0z a0 a1 := by kernel_rfl
theorem impl_BitsOk.s0 (k : Nat) (G : List Fr → St → Option Res) (a0z : Bool) (a0 : List Int) (a1 : Int) (yx1 : Int) (yx18z : Bool) (yx18 : List Int) (yx19 : Int) (yx20 : Int) : resume Try.prog (impl_BitsOk.Cs k) G (finish Try.prog [] Try.f139 [.v (.nums 5 .u8 a0z a0), .v (.int .i64 a1)]) 100000 impl_BitsOk.K0 (impl_BitsOk.N0 yx1 yx18z yx18 yx19 yx20) = impl_BitsOk.l0b (fun r => some (impl_BitsOk.enc r)) (fun x1 x18z x18 x19 x20 => G impl_BitsOk.K0 (impl_BitsOk.N0 x1 x18z x18 x19 x20)) k yx1 yx18z yx18 yx19 yx20 := by kernel_rfl
theorem impl_BitsOk.b_nat {R R' : Type} (e : R → R') (ret : Bool → Option R) (j0 : Int → Bool → (List Int) → Int → Int → Option R) (k : Nat) (a0z : Bool) (a0 : List Int) (a1 : Int) : impl_BitsOk.b (fun r => (ret r).map e) (fun x1 x18z x18 x19 x20 => (j0 x1 x18z x18 x19 x20).map e) k a0z a0 a1 = (impl_BitsOk.b ret j0 k a0z a0 a1).map e := by
  unfold impl_BitsOk.b
  repeat' first | with_reducible refine nat_cond ?_ ?_ | with_reducible refine nat_bind fun _ => ?_ | rfl
theorem impl_BitsOk.l0b_nat {R R' : Type} (e : R → R') (ret : Bool → Option R) (j0 : Int → Bool → (List Int) → Int → Int → Option R) (k : Nat) (x1 : Int) (x18z : Bool) (x18 : List Int) (x19 : Int) (x20 : Int) : impl_BitsOk.l0b (fun r => (ret r).map e) (fun x1 x18z x18 x19 x20 => (j0 x1 x18z x18 x19 x20).map e) k x1 x18z x18 x19 x20 = (impl_BitsOk.l0b ret j0 k x1 x18z x18 x19 x20).map e := by
  unfold impl_BitsOk.l0b
  repeat' first | with_reducible refine nat_cond ?_ ?_ | with_reducible refine nat_bind fun _ => ?_ | rfl
theorem impl_BitsOk.rounds_eq (a0z : Bool) (a0 : List Int) (a1 : Int) : ∀ k, (∀ (x1 : Int) (x18z : Bool) (x18 : List Int) (x19 : Int) (x20 : Int), rounds Try.prog impl_BitsOk.Cs (finish Try.prog [] Try.f139 [.v (.nums 5 .u8 a0z a0), .v (.int .i64 a1)]) 100000 k impl_BitsOk.K0 (impl_BitsOk.N0 x1 x18z x18 x19 x20) = (impl_BitsOk.l0 k x1 x18z x18 x19 x20).map impl_BitsOk.enc)
  | 0 => fun _ _ _ _ _ => rfl
  | k + 1 => by
    have ih := impl_BitsOk.rounds_eq a0z a0 a1 k
    refine fun _ _ _ _ _ => ?_
    · refine (impl_BitsOk.s0 k _ a0z a0 a1 _ _ _ _ _).trans (Eq.trans ?_ (impl_BitsOk.l0b_nat impl_BitsOk.enc some (impl_BitsOk.l0 k) k _ _ _ _ _))
      simp only [ih, Option.map_some]
theorem impl_BitsOk.eq (k : Nat) (a0z : Bool) (a0 : List Int) (a1 : Int) : answer Try.prog impl_BitsOk.Cs 100000 impl_BitsOk.cuts [] Try.f139 (k + 1) [.v (.nums 5 .u8 a0z a0), .v (.int .i64 a1)] = (impl_BitsOk.f (k + 1) a0z a0 a1).map impl_BitsOk.enc := by
  have ih := impl_BitsOk.rounds_eq a0z a0 a1 k
  refine (impl_BitsOk.s k a0z a0 a1).trans (Eq.trans ?_ (impl_BitsOk.b_nat impl_BitsOk.enc some (impl_BitsOk.l0 k) k a0z a0 a1))
  simp only [ih, Option.map_some]
theorem impl_BitsOk.sound (k : Nat) : SoundF Try.prog 139 (fun a => (impl_BitsOk.ans k a).val) := by
  refine sound_plain (fun args res h => ?_) (fun t n => rfl)
  unfold impl_BitsOk.ans at h
  dsimp only at h
  split at h
  · cases k with
    | zero => cases h
    | succ k =>
      unfold Ans.val at h
      rw [← impl_BitsOk.eq] at h
      exact answer_sound mixed Try.func139 _ _ _ (k + 1) (fun j _ => tab_sound (tab_cons (impl_within.sound j) (tab_cons (impl_BitsSize.sound j) (tab_cons (impl_BitsList.sound j) (tab_nil))))) _ _ h
  · exact (Ans.no_val h).elim

/-! loop.example/g00790/impl.WeightOf -/
def impl_WeightOf.b {R : Type} (ret : Int → Option R) (j0 : Int → Bool → (List Int) → Int → Int → Bool → (List T) → Option R) (k : Nat) (a0_0z : Bool) (a0_0 : List T) (a1z : Bool) (a1 : List Int) : Option R :=
  (impl_TableOk.f k a0_0z a0_0).bind fun t0 => cond (!t0) (ret 0) ((impl_BitsOk.f k a1z a1 ((a0_0).length : Int)).bind fun t1 => cond (!t1) (ret 0) ((impl_BitsList.f k a1z a1).bind fun t2 => j0 0 t2.1 t2.2 ((t2.2).length : Int) 0 a0_0z a0_0))
def impl_WeightOf.l0b {R : Type} (ret : Int → Option R) (j0 : Int → Bool → (List Int) → Int → Int → Bool → (List T) → Option R) (k : Nat) (x5 : Int) (x20z : Bool) (x20 : List Int) (x21 : Int) (x22 : Int) (c2_0z : Bool) (c2_0 : List T) : Option R :=
  cond (decide (x22 < x21)) (cond (decide ((0 : Int) ≤ x22)) (cond (decide (x22 < ((x20).length : Int))) (cond (decide ((0 : Int) ≤ (rdI x20 x22))) (cond (decide ((rdI x20 x22) < ((c2_0).length : Int))) (j0 (RowKit.wrap64 (x5 + ((((c2_0).getD ((rdI x20 x22)).toNat .bad).cells.getD 0 .bad)).toInt)) x20z x20 x21 (RowKit.wrap64 (x22 + 1)) c2_0z c2_0) (none)) (none)) (none)) (none)) (ret x5)
def impl_WeightOf.l0 : Nat → Int → Bool → (List Int) → Int → Int → Bool → (List T) → Option Int
  | 0, _, _, _, _, _, _, _ => none
  | k + 1, x5, x20z, x20, x21, x22, c2_0z, c2_0 => impl_WeightOf.l0b some (impl_WeightOf.l0 k) k x5 x20z x20 x21 x22 c2_0z c2_0
def impl_WeightOf.f : Nat → Bool → (List T) → Bool → (List Int) → Option Int
  | 0, _, _, _, _ => none
  | k + 1, a0_0z, a0_0, a1z, a1 => impl_WeightOf.b some (impl_WeightOf.l0 k) k a0_0z a0_0 a1z a1
def impl_WeightOf.enc (r : Int) : Res := ⟨[.vals false [((.int .i64 r), true)]], []⟩
def impl_WeightOf.ans (k : Nat) : List Arg → Ans
  | [.v (.agg [(.sl 160 a0_0z a0_0)]), .v (.nums 5 .u8 a1z a1)] => ⟨impl_WeightOf.f k a0_0z a0_0 a1z a1, impl_WeightOf.enc⟩
  | _ => Ans.no
def impl_WeightOf.Cs (k : Nat) : CallSem := tab [(125, impl_TableOk.ans k), (139, impl_BitsOk.ans k), (140, impl_BitsList.ans k)]
def impl_WeightOf.cuts : List (Nat × Keep) := [(122, ⟨[(2, some []), (5, some []), (20, none), (21, some []), (22, some [])], [(2, [some []])]⟩)]
noncomputable def impl_WeightOf.K0 : List Fr := framesAt [true, true, true, false, true, false] (bodyOf Try.f174 impl_WeightOf.cuts) []
def impl_WeightOf.N0 (x5 : Int) (x20z : Bool) (x20 : List Int) (x21 : Int) (x22 : Int) (c2_0z : Bool) (c2_0 : List T) : St := stOf 36 36 2 [(2, .bp 2 0), (5, .val (V.s (.int .i64 x5))), (20, .val ⟨(.nums 3 .i64 x20z x20), [.l 20 0], true, some (.l 20 0)⟩), (21, .val (V.s (.int .i64 x21))), (22, .val (V.s (.int .i64 x22)))] [(2, .cells [⟨(.sl 160 c2_0z c2_0), [], false, none⟩])]
theorem impl_WeightOf.s (k : Nat) (a0_0z : Bool) (a0_0 : List T) (a1z : Bool) (a1 : List Int) : answer Try.prog impl_WeightOf.Cs 100000 impl_WeightOf.cuts [] Try.f174 (k + 1) [.v (.agg [(.sl 160 a0_0z a0_0)]), .v (.nums 5 .u8 a1z a1)] = impl_WeightOf.b (fun r => some (impl_WeightOf.enc r)) (fun x5 x20z x20 x21 x22 c2_0z c2_0 => rounds Try.prog impl_WeightOf.Cs (finish Try.prog [] Try.f174 [.v (.agg [(.sl 160 a0_0z a0_0)]), .v (.nums 5 .u8 a1z a1)]) 100000 k impl_WeightOf.K0 (impl_WeightOf.N0 x5 x20z x20 x21 x22 c2_0z c2_0)) k a0_0z a0_0 a1z a1 := by kernel_rfl
theorem impl_WeightOf.s0 (k : Nat) (G : List Fr → St → Option Res) (a0_0z : Bool) (a0_0 : List T) (a1z : Bool) (a1 : List Int) (yx5 : Int) (yx20z : Bool) (yx20 : List Int) (yx21 : Int) (yx22 : Int) (yc2_0z : Bool) (yc2_0 : List T) : resume Try.prog (impl_WeightOf.Cs k) G (finish Try.prog [] Try.f174 [.v (.agg [(.sl 160 a0_0z a0_0)]), .v (.nums 5 .u8 a1z a1)]) 100000 impl_WeightOf.K0 (impl_WeightOf.N0 yx5 yx20z yx20 yx21 yx22 yc2_0z yc2_0) = impl_WeightOf.l0b (fun r => some (impl_WeightOf.enc r)) (fun x5 x20z x20 x21 x22 c2_0z c2_0 => G impl_WeightOf.K0 (impl_WeightOf.N0 x5 x20z x20 x21 x22 c2_0z c2_0)) k yx5 yx20z yx20 yx21 yx22 yc2_0z yc2_0 := by kernel_rfl
theorem impl_WeightOf.b_nat {R R' : Type} (e : R → R') (ret : Int → Option R) (j0 : Int → Bool → (List Int) → Int → Int → Bool → (List T) → Option R) (k : Nat) (a0_0z : Bool) (a0_0 : List T) (a1z : Bool) (a1 : List Int) : impl_WeightOf.b (fun r => (ret r).map e) (fun x5 x20z x20 x21 x22 c2_0z c2_0 => (j0 x5 x20z x20 x21 x22 c2_0z c2_0).map e) k a0_0z a0_0 a1z a1 = (impl_WeightOf.b ret j0 k a0_0z a0_0 a1z a1).map e := by
  unfold impl_WeightOf.b
  repeat' first | with_reducible refine nat_cond ?_ ?_ | with_reducible refine nat_bind fun _ => ?_ | rfl
theorem impl_WeightOf.l0b_nat {R R' : Type} (e : R → R') (ret : Int → Option R) (j0 : Int → Bool → (List Int) → Int → Int → Bool → (List T) → Option R) (k : Nat) (x5 : Int) (x20z : Bool) (x20 : List Int) (x21 : Int) (x22 : Int) (c2_0z : Bool) (c2_0 : List T) : impl_WeightOf.l0b (fun r => (ret r).map e) (fun x5 x20z x20 x21 x22 c2_0z c2_0 => (j0 x5 x20z x20 x21 x22 c2_0z c2_0).map e) k x5 x20z x20 x21 x22 c2_0z c2_0 = (impl_WeightOf.l0b ret j0 k x5 x20z x20 x21 x22 c2_0z c2_0).map e := by
  unfold impl_WeightOf.l0b
  repeat' first | with_reducible refine nat_cond ?_ ?_ | with_reducible refine nat_bind fun _ => ?_ | rfl
theorem impl_WeightOf.rounds_eq (a0_0z : Bool) (a0_0 : List T) (a1z : Bool) (a1 : List Int) : ∀ k, (∀ (x5 : Int) (x20z : Bool) (x20 : List Int) (x21 : Int) (x22 : Int) (c2_0z : Bool) (c2_0 : List T), rounds Try.prog impl_WeightOf.Cs (finish Try.prog [] Try.f174 [.v (.agg [(.sl 160 a0_0z a0_0)]), .v (.nums 5 .u8 a1z a1)]) 100000 k impl_WeightOf.K0 (impl_WeightOf.N0 x5 x20z x20 x21 x22 c2_0z c2_0) = (impl_WeightOf.l0 k x5 x20z x20 x21 x22 c2_0z c2_0).map impl_WeightOf.enc)
  | 0 => fun _ _ _ _ _ _ _ => rfl
  | k + 1 => by
    have ih := impl_WeightOf.rounds_eq a0_0z a0_0 a1z a1 k
    refine fun _ _ _ _ _ _ _ => ?_
    · refine (impl_WeightOf.s0 k _ a0_0z a0_0 a1z a1 _ _ _ _ _ _ _).trans (Eq.trans ?_ (impl_WeightOf.l0b_nat impl_WeightOf.enc some (impl_WeightOf.l0 k) k _ _ _ _ _ _ _))
      simp only [ih, Option.map_some]
theorem impl_WeightOf.eq (k : Nat) (a0_0z : Bool) (a0_0 : List T) (a1z : Bool) (a1 : List Int) : answer Try.prog impl_WeightOf.Cs 100000 impl_WeightOf.cuts [] Try.f174 (k + 1) [.v (.agg [(.sl 160 a0_0z a0_0)]), .v (.nums 5 .u8 a1z a1)] = (impl_WeightOf.f (k + 1) a0_0z a0_0 a1z a1).map impl_WeightOf.enc := by
  have ih := impl_WeightOf.rounds_eq a0_0z a0_0 a1z a1 k
  refine (impl_WeightOf.s k a0_0z a0_0 a1z a1).trans (Eq.trans ?_ (impl_WeightOf.b_nat impl_WeightOf.enc some (impl_WeightOf.l0 k) k a0_0z a0_0 a1z a1))
  simp only [ih, Option.map_some]
theorem impl_WeightOf.sound (k : Nat) : SoundF Try.prog 174 (fun a => (impl_WeightOf.ans k a).val) := by
  refine sound_plain (fun args res h => ?_) (fun t n => rfl)
  unfold impl_WeightOf.ans at h
  dsimp only at h
  split at h
  · cases k with
    | zero => cases h
    | succ k =>
      unfold Ans.val at h
      rw [← impl_WeightOf.eq] at h
      exact answer_sound mixed Try.func174 _ _ _ (k + 1) (fun j _ => tab_sound (tab_cons (impl_TableOk.sound j) (tab_cons (impl_BitsOk.sound j) (tab_cons (impl_BitsList.sound j) (tab_nil))))) _ _ h
  · exact (Ans.no_val h).elim

/-! loop.example/g00790/impl.TotalOf -/
def impl_TotalOf.b {R : Type} (ret : Int → Option R) (j0 : Int → Bool → (List T) → Int → Int → Bool → (List T) → Option R) (k : Nat) (a0_0z : Bool) (a0_0 : List T) : Option R :=
  j0 0 a0_0z a0_0 ((a0_0).length : Int) 0 a0_0z a0_0
def impl_TotalOf.l0b {R : Type} (ret : Int → Option R) (j0 : Int → Bool → (List T) → Int → Int → Bool → (List T) → Option R) (k : Nat) (x3 : Int) (x7z : Bool) (x7 : List T) (x8 : Int) (x9 : Int) (c1_0z : Bool) (c1_0 : List T) : Option R :=
  cond (decide (x9 < x8)) (cond (decide ((0 : Int) ≤ x9)) (cond (decide (x9 < ((x7).length : Int))) ((impl_TableOk.f k c1_0z c1_0).bind fun t0 => cond t0 (j0 (RowKit.wrap64 (x3 + ((((x7).getD (x9).toNat .bad).cells.getD 0 .bad)).toInt)) x7z x7 x8 (RowKit.wrap64 (x9 + 1)) c1_0z c1_0) (j0 x3 x7z x7 x8 (RowKit.wrap64 (x9 + 1)) c1_0z c1_0)) (none)) (none)) (ret x3)
def impl_TotalOf.l0 : Nat → Int → Bool → (List T) → Int → Int → Bool → (List T) → Option Int
  | 0, _, _, _, _, _, _, _ => none
  | k + 1, x3, x7z, x7, x8, x9, c1_0z, c1_0 => impl_TotalOf.l0b some (impl_TotalOf.l0 k) k x3 x7z x7 x8 x9 c1_0z c1_0
def impl_TotalOf.f : Nat → Bool → (List T) → Option Int
  | 0, _, _ => none
  | k + 1, a0_0z, a0_0 => impl_TotalOf.b some (impl_TotalOf.l0 k) k a0_0z a0_0
def impl_TotalOf.enc (r : Int) : Res := ⟨[.vals false [((.int .i64 r), true)]], []⟩
def impl_TotalOf.ans (k : Nat) : List Arg → Ans
  | [.v (.agg [(.sl 160 a0_0z a0_0)])] => ⟨impl_TotalOf.f k a0_0z a0_0, impl_TotalOf.enc⟩
  | _ => Ans.no
def impl_TotalOf.Cs (k : Nat) : CallSem := tab [(125, impl_TableOk.ans k)]
def impl_TotalOf.cuts : List (Nat × Keep) := [(58, ⟨[(1, some []), (3, some []), (7, some []), (8, some []), (9, some [])], [(1, [some []])]⟩)]
noncomputable def impl_TotalOf.K0 : List Fr := framesAt [true, true, false, true, false] (bodyOf Try.f175 impl_TotalOf.cuts) []
def impl_TotalOf.N0 (x3 : Int) (x7z : Bool) (x7 : List T) (x8 : Int) (x9 : Int) (c1_0z : Bool) (c1_0 : List T) : St := stOf 21 21 1 [(1, .bp 1 0), (3, .val (V.s (.int .i64 x3))), (7, .val ⟨(.sl 160 x7z x7), [], false, none⟩), (8, .val (V.s (.int .i64 x8))), (9, .val (V.s (.int .i64 x9)))] [(1, .cells [⟨(.sl 160 c1_0z c1_0), [], false, none⟩])]
theorem impl_TotalOf.s (k : Nat) (a0_0z : Bool) (a0_0 : List T) : answer Try.prog impl_TotalOf.Cs 100000 impl_TotalOf.cuts [] Try.f175 (k + 1) [.v (.agg [(.sl 160 a0_0z a0_0)])] = impl_TotalOf.b (fun r => some (impl_TotalOf.enc r)) (fun x3 x7z x7 x8 x9 c1_0z c1_0 => rounds Try.prog impl_TotalOf.Cs (finish Try.prog [] Try.f175 [.v (.agg [(.sl 160 a0_0z a0_0)])]) 100000 k impl_TotalOf.K0 (impl_TotalOf.N0 x3 x7z x7 x8 x9 c1_0z c1_0)) k a0_0z a0_0 := by kernel_rfl
theorem impl_TotalOf.s0 (k : Nat) (G : List Fr → St → Option Res) (a0_0z : Bool) (a0_0 : List T) (yx3 : Int) (yx7z : Bool) (yx7 : List T) (yx8 : Int) (yx9 : Int) (yc1_0z : Bool) (yc1_0 : List T) : resume Try.prog (impl_TotalOf.Cs k) G (finish Try.prog [] Try.f175 [.v (.agg [(.sl 160 a0_0z a0_0)])]) 100000 impl_TotalOf.K0 (impl_TotalOf.N0 yx3 yx7z yx7 yx8 yx9 yc1_0z yc1_0) = impl_TotalOf.l0b (fun r => some (impl_TotalOf.enc r)) (fun x3 x7z x7 x8 x9 c1_0z c1_0 => G impl_TotalOf.K0 (impl_TotalOf.N0 x3 x7z x7 x8 x9 c1_0z c1_0)) k yx3 yx7z yx7 yx8 yx9 yc1_0z yc1_0 := by kernel_rfl
theorem impl_TotalOf.b_nat {R R' : Type} (e : R → R') (ret : Int → Option R) (j0 : Int → Bool → (List T) → Int → Int → Bool → (List T) → Option R) (k : Nat) (a0_0z : Bool) (a0_0 : List T) : impl_TotalOf.b (fun r => (ret r).map e) (fun x3 x7z x7 x8 x9 c1_0z c1_0 => (j0 x3 x7z x7 x8 x9 c1_0z c1_0).map e) k a0_0z a0_0 = (impl_TotalOf.b ret j0 k a0_0z a0_0).map e := by
  unfold impl_TotalOf.b
  repeat' first | with_reducible refine nat_cond ?_ ?_ | with_reducible refine nat_bind fun _ => ?_ | rfl
theorem impl_TotalOf.l0b_nat {R R' : Type} (e : R → R') (ret : Int → Option R) (j0 : Int → Bool → (List T) → Int → Int → Bool → (List T) → Option R) (k : Nat) (x3 : Int) (x7z : Bool) (x7 : List T) (x8 : Int) (x9 : Int) (c1_0z : Bool) (c1_0 : List T) : impl_TotalOf.l0b (fun r => (ret r).map e) (fun x3 x7z x7 x8 x9 c1_0z c1_0 => (j0 x3 x7z x7 x8 x9 c1_0z c1_0).map e) k x3 x7z x7 x8 x9 c1_0z c1_0 = (impl_TotalOf.l0b ret j0 k x3 x7z x7 x8 x9 c1_0z c1_0).map e := by
  unfold impl_TotalOf.l0b
  repeat' first | with_reducible refine nat_cond ?_ ?_ | with_reducible refine nat_bind fun _ => ?_ | rfl
theorem impl_TotalOf.rounds_eq (a0_0z : Bool) (a0_0 : List T) : ∀ k, (∀ (x3 : Int) (x7z : Bool) (x7 : List T) (x8 : Int) (x9 : Int) (c1_0z : Bool) (c1_0 : List T), rounds Try.prog impl_TotalOf.Cs (finish Try.prog [] Try.f175 [.v (.agg [(.sl 160 a0_0z a0_0)])]) 100000 k impl_TotalOf.K0 (impl_TotalOf.N0 x3 x7z x7 x8 x9 c1_0z c1_0) = (impl_TotalOf.l0 k x3 x7z x7 x8 x9 c1_0z c1_0).map impl_TotalOf.enc)
  | 0 => fun _ _ _ _ _ _ _ => rfl
  | k + 1 => by
    have ih := impl_TotalOf.rounds_eq a0_0z a0_0 k
    refine fun _ _ _ _ _ _ _ => ?_
    · refine (impl_TotalOf.s0 k _ a0_0z a0_0 _ _ _ _ _ _ _).trans (Eq.trans ?_ (impl_TotalOf.l0b_nat impl_TotalOf.enc some (impl_TotalOf.l0 k) k _ _ _ _ _ _ _))
      simp only [ih, Option.map_some]
theorem impl_TotalOf.eq (k : Nat) (a0_0z : Bool) (a0_0 : List T) : answer Try.prog impl_TotalOf.Cs 100000 impl_TotalOf.cuts [] Try.f175 (k + 1) [.v (.agg [(.sl 160 a0_0z a0_0)])] = (impl_TotalOf.f (k + 1) a0_0z a0_0).map impl_TotalOf.enc := by
  have ih := impl_TotalOf.rounds_eq a0_0z a0_0 k
  refine (impl_TotalOf.s k a0_0z a0_0).trans (Eq.trans ?_ (impl_TotalOf.b_nat impl_TotalOf.enc some (impl_TotalOf.l0 k) k a0_0z a0_0))
  simp only [ih, Option.map_some]
theorem impl_TotalOf.sound (k : Nat) : SoundF Try.prog 175 (fun a => (impl_TotalOf.ans k a).val) := by
  refine sound_plain (fun args res h => ?_) (fun t n => rfl)
  unfold impl_TotalOf.ans at h
  dsimp only at h
  split at h
  · cases k with
    | zero => cases h
    | succ k =>
      unfold Ans.val at h
      rw [← impl_TotalOf.eq] at h
      exact answer_sound mixed Try.func175 _ _ _ (k + 1) (fun j _ => tab_sound (tab_cons (impl_TableOk.sound j) (tab_nil))) _ _ h
  · exact (Ans.no_val h).elim

/-! loop.example/g00790/impl.IsQuorum -/
def impl_IsQuorum.b {R : Type} (ret : Bool → Option R) (k : Nat) (a0_0z : Bool) (a0_0 : List T) (a1z : Bool) (a1 : List Int) : Option R :=
  (impl_TableOk.f k a0_0z a0_0).bind fun t0 => cond t0 ((impl_WeightOf.f k a0_0z a0_0 a1z a1).bind fun t1 => (impl_TotalOf.f k a0_0z a0_0).bind fun t2 => ret (decide ((RowKit.wrap64 ((3 : Int) * t1)) > (RowKit.wrap64 ((2 : Int) * t2))))) (ret false)
def impl_IsQuorum.f : Nat → Bool → (List T) → Bool → (List Int) → Option Bool
  | 0, _, _, _, _ => none
  | k + 1, a0_0z, a0_0, a1z, a1 => impl_IsQuorum.b some k a0_0z a0_0 a1z a1
def impl_IsQuorum.enc (r : Bool) : Res := ⟨[.vals false [((.bool r), true)]], []⟩
def impl_IsQuorum.ans (k : Nat) : List Arg → Ans
  | [.v (.agg [(.sl 160 a0_0z a0_0)]), .v (.nums 5 .u8 a1z a1)] => ⟨impl_IsQuorum.f k a0_0z a0_0 a1z a1, impl_IsQuorum.enc⟩
  | _ => Ans.no
def impl_IsQuorum.Cs (k : Nat) : CallSem := tab [(125, impl_TableOk.ans k), (174, impl_WeightOf.ans k), (175, impl_TotalOf.ans k)]
def impl_IsQuorum.cuts : List (Nat × Keep) := []
theorem impl_IsQuorum.s (k : Nat) (a0_0z : Bool) (a0_0 : List T) (a1z : Bool) (a1 : List Int) : answer Try.prog impl_IsQuorum.Cs 100000 impl_IsQuorum.cuts [] Try.f108 (k + 1) [.v (.agg [(.sl 160 a0_0z a0_0)]), .v (.nums 5 .u8 a1z a1)] = impl_IsQuorum.b (fun r => some (impl_IsQuorum.enc r)) k a0_0z a0_0 a1z a1 := by kernel_rfl
theorem impl_IsQuorum.b_nat {R R' : Type} (e : R → R') (ret : Bool → Option R) (k : Nat) (a0_0z : Bool) (a0_0 : List T) (a1z : Bool) (a1 : List Int) : impl_IsQuorum.b (fun r => (ret r).map e) k a0_0z a0_0 a1z a1 = (impl_IsQuorum.b ret k a0_0z a0_0 a1z a1).map e := by
  unfold impl_IsQuorum.b
  repeat' first | with_reducible refine nat_cond ?_ ?_ | with_reducible refine nat_bind fun _ => ?_ | rfl
theorem impl_IsQuorum.eq (k : Nat) (a0_0z : Bool) (a0_0 : List T) (a1z : Bool) (a1 : List Int) : answer Try.prog impl_IsQuorum.Cs 100000 impl_IsQuorum.cuts [] Try.f108 (k + 1) [.v (.agg [(.sl 160 a0_0z a0_0)]), .v (.nums 5 .u8 a1z a1)] = (impl_IsQuorum.f (k + 1) a0_0z a0_0 a1z a1).map impl_IsQuorum.enc := by
  refine (impl_IsQuorum.s k a0_0z a0_0 a1z a1).trans (Eq.trans ?_ (impl_IsQuorum.b_nat impl_IsQuorum.enc some k a0_0z a0_0 a1z a1))
  simp only [Option.map_some]
theorem impl_IsQuorum.sound (k : Nat) : SoundF Try.prog 108 (fun a => (impl_IsQuorum.ans k a).val) := by
  refine sound_plain (fun args res h => ?_) (fun t n => rfl)
  unfold impl_IsQuorum.ans at h
  dsimp only at h
  split at h
  · cases k with
    | zero => cases h
    | succ k =>
      unfold Ans.val at h
      rw [← impl_IsQuorum.eq] at h
      exact answer_sound mixed Try.func108 _ _ _ (k + 1) (fun j _ => tab_sound (tab_cons (impl_TableOk.sound j) (tab_cons (impl_WeightOf.sound j) (tab_cons (impl_TotalOf.sound j) (tab_nil))))) _ _ h
  · exact (Ans.no_val h).elim

/-! loop.example/g00790/impl.leastOf -/
def impl_leastOf.b {R : Type} (ret : Bool × List Int → Option R) (j0 : Bool → (List Int) → Int → Int → Bool → (List T) → Option R) (j1 : Bool → (List Int) → Int → Int → Bool → (List T) → Option R) (self : Bool → (List T) → Bool → (List Int) → Int → Option (Bool × List Int)) (k : Nat) (a0_0z : Bool) (a0_0 : List T) (a1z : Bool) (a1 : List Int) (a2 : Int) : Option R :=
  cond (decide (a2 = 0)) ((impl_BitsOf.f k a1z a1 ((a0_0).length : Int)).bind fun t0 => (impl_IsQuorum.f k a0_0z a0_0 t0.1 t0.2.1).bind fun t1 => cond (!t1) (ret (true, ([] : List Int))) (ret (t0.1, t0.2.1))) (cond (decide (((a1).length : Int) > 0)) (cond (decide ((0 : Int) ≤ (RowKit.wrap64 (((a1).length : Int) - 1)))) (cond (decide ((RowKit.wrap64 (((a1).length : Int) - 1)) < ((a1).length : Int))) (j0 a1z a1 a2 (RowKit.wrap64 ((rdI a1 (RowKit.wrap64 (((a1).length : Int) - 1))) + 1)) a0_0z a0_0) (none)) (none)) (j0 a1z a1 a2 0 a0_0z a0_0))
def impl_leastOf.l0b {R : Type} (ret : Bool × List Int → Option R) (j0 : Bool → (List Int) → Int → Int → Bool → (List T) → Option R) (j1 : Bool → (List Int) → Int → Int → Bool → (List T) → Option R) (self : Bool → (List T) → Bool → (List Int) → Int → Option (Bool × List Int)) (k : Nat) (x1z : Bool) (x1 : List Int) (x2 : Int) (x9 : Int) (c3_0z : Bool) (c3_0 : List T) : Option R :=
  j1 x1z x1 x2 x9 c3_0z c3_0
def impl_leastOf.l1b {R : Type} (ret : Bool × List Int → Option R) (j0 : Bool → (List Int) → Int → Int → Bool → (List T) → Option R) (j1 : Bool → (List Int) → Int → Int → Bool → (List T) → Option R) (self : Bool → (List T) → Bool → (List Int) → Int → Option (Bool × List Int)) (k : Nat) (x1z : Bool) (x1 : List Int) (x2 : Int) (x10 : Int) (c3_0z : Bool) (c3_0 : List T) : Option R :=
  cond (decide (x10 < ((c3_0).length : Int))) (cond (decide (0 + (x1).length < 17592186044416)) (cond (decide ((x1).length + 1 < 17592186044416)) ((self c3_0z c3_0 false (x1 ++ ([x10] : List Int)) (RowKit.wrap64 (x2 - 1))).bind fun t0 => cond (!t0.1) (ret (t0.1, t0.2)) (j1 x1z x1 x2 (RowKit.wrap64 (x10 + 1)) c3_0z c3_0)) (none)) (none)) (ret (true, ([] : List Int)))
mutual
def impl_leastOf.l0 : Nat → Bool → (List Int) → Int → Int → Bool → (List T) → Option (Bool × List Int)
  | 0, _, _, _, _, _, _ => none
  | k + 1, x1z, x1, x2, x9, c3_0z, c3_0 => impl_leastOf.l0b some (impl_leastOf.l0 k) (impl_leastOf.l1 k) (impl_leastOf.f k) k x1z x1 x2 x9 c3_0z c3_0
def impl_leastOf.l1 : Nat → Bool → (List Int) → Int → Int → Bool → (List T) → Option (Bool × List Int)
  | 0, _, _, _, _, _, _ => none
  | k + 1, x1z, x1, x2, x10, c3_0z, c3_0 => impl_leastOf.l1b some (impl_leastOf.l0 k) (impl_leastOf.l1 k) (impl_leastOf.f k) k x1z x1 x2 x10 c3_0z c3_0
def impl_leastOf.f : Nat → Bool → (List T) → Bool → (List Int) → Int → Option (Bool × List Int)
  | 0, _, _, _, _, _ => none
  | k + 1, a0_0z, a0_0, a1z, a1, a2 => impl_leastOf.b some (impl_leastOf.l0 k) (impl_leastOf.l1 k) (impl_leastOf.f k) k a0_0z a0_0 a1z a1 a2
end
def impl_leastOf.enc (r : Bool × List Int) : Res := ⟨[.vals false [((.nums 5 .u8 r.1 r.2), true)]], []⟩
def impl_leastOf.ans (k : Nat) : List Arg → Ans
  | [.v (.agg [(.sl 160 a0_0z a0_0)]), .v (.nums 3 .i64 a1z a1), .v (.int .i64 a2)] => ⟨impl_leastOf.f k a0_0z a0_0 a1z a1 a2, impl_leastOf.enc⟩
  | _ => Ans.no
def impl_leastOf.Cs (k : Nat) : CallSem := tab [(181, impl_BitsOf.ans k), (108, impl_IsQuorum.ans k), (137, impl_leastOf.ans k)]
def impl_leastOf.cuts : List (Nat × Keep) := [(15, ⟨[(1, some []), (2, some []), (3, some []), (9, some [])], [(3, [some []])]⟩), (250, ⟨[(1, some []), (2, some []), (3, some []), (10, some [])], [(3, [some []])]⟩)]
noncomputable def impl_leastOf.K0 : List Fr := framesAt [true, true, true] (bodyOf Try.f137 impl_leastOf.cuts) []
def impl_leastOf.N0 (x1z : Bool) (x1 : List Int) (x2 : Int) (x9 : Int) (c3_0z : Bool) (c3_0 : List T) : St := stOf 58 58 3 [(1, .val ⟨(.nums 3 .i64 x1z x1), [], false, none⟩), (2, .val (V.s (.int .i64 x2))), (3, .bp 3 0), (9, .val (V.s (.int .i64 x9)))] [(3, .cells [⟨(.sl 160 c3_0z c3_0), [], false, none⟩])]
noncomputable def impl_leastOf.K1 : List Fr := framesAt [true, true, true, true, false, true, false] (bodyOf Try.f137 impl_leastOf.cuts) []
def impl_leastOf.N1 (x1z : Bool) (x1 : List Int) (x2 : Int) (x10 : Int) (c3_0z : Bool) (c3_0 : List T) : St := stOf 58 58 3 [(1, .val ⟨(.nums 3 .i64 x1z x1), [], false, none⟩), (2, .val (V.s (.int .i64 x2))), (3, .bp 3 0), (10, .val (V.s (.int .i64 x10)))] [(3, .cells [⟨(.sl 160 c3_0z c3_0), [], false, none⟩])]
theorem impl_leastOf.s (k : Nat) (a0_0z : Bool) (a0_0 : List T) (a1z : Bool) (a1 : List Int) (a2 : Int) : answer Try.prog impl_leastOf.Cs 100000 impl_leastOf.cuts [] Try.f137 (k + 1) [.v (.agg [(.sl 160 a0_0z a0_0)]), .v (.nums 3 .i64 a1z a1), .v (.int .i64 a2)] = impl_leastOf.b (fun r => some (impl_leastOf.enc r)) (fun x1z x1 x2 x9 c3_0z c3_0 => rounds Try.prog impl_leastOf.Cs (finish Try.prog [] Try.f137 [.v (.agg [(.sl 160 a0_0z a0_0)]), .v (.nums 3 .i64 a1z a1), .v (.int .i64 a2)]) 100000 k impl_leastOf.K0 (impl_leastOf.N0 x1z x1 x2 x9 c3_0z c3_0)) (fun x1z x1 x2 x10 c3_0z c3_0 => rounds Try.prog impl_leastOf.Cs (finish Try.prog [] Try.f137 [.v (.agg [(.sl 160 a0_0z a0_0)]), .v (.nums 3 .i64 a1z a1), .v (.int .i64 a2)]) 100000 k impl_leastOf.K1 (impl_leastOf.N1 x1z x1 x2 x10 c3_0z c3_0)) (impl_leastOf.f k) k a0_0z a0_0 a1z a1 a2 := by kernel_rfl
theorem impl_leastOf.s0 (k : Nat) (G : List Fr → St → Option Res) (a0_0z : Bool) (a0_0 : List T) (a1z : Bool) (a1 : List Int) (a2 : Int) (yx1z : Bool) (yx1 : List Int) (yx2 : Int) (yx9 : Int) (yc3_0z : Bool) (yc3_0 : List T) : resume Try.prog (impl_leastOf.Cs k) G (finish Try.prog [] Try.f137 [.v (.agg [(.sl 160 a0_0z a0_0)]), .v (.nums 3 .i64 a1z a1), .v (.int .i64 a2)]) 100000 impl_leastOf.K0 (impl_leastOf.N0 yx1z yx1 yx2 yx9 yc3_0z yc3_0) = impl_leastOf.l0b (fun r => some (impl_leastOf.enc r)) (fun x1z x1 x2 x9 c3_0z c3_0 => G impl_leastOf.K0 (impl_leastOf.N0 x1z x1 x2 x9 c3_0z c3_0)) (fun x1z x1 x2 x10 c3_0z c3_0 => G impl_leastOf.K1 (impl_leastOf.N1 x1z x1 x2 x10 c3_0z c3_0)) (impl_leastOf.f k) k yx1z yx1 yx2 yx9 yc3_0z yc3_0 := by kernel_rfl
theorem impl_leastOf.s1 (k : Nat) (G : List Fr → St → Option Res) (a0_0z : Bool) (a0_0 : List T) (a1z : Bool) (a1 : List Int) (a2 : Int) (yx1z : Bool) (yx1 : List Int) (yx2 : Int) (yx10 : Int) (yc3_0z : Bool) (yc3_0 : List T) : resume Try.prog (impl_leastOf.Cs k) G (finish Try.prog [] Try.f137 [.v (.agg [(.sl 160 a0_0z a0_0)]), .v (.nums 3 .i64 a1z a1), .v (.int .i64 a2)]) 100000 impl_leastOf.K1 (impl_leastOf.N1 yx1z yx1 yx2 yx10 yc3_0z yc3_0) = impl_leastOf.l1b (fun r => some (impl_leastOf.enc r)) (fun x1z x1 x2 x9 c3_0z c3_0 => G impl_leastOf.K0 (impl_leastOf.N0 x1z x1 x2 x9 c3_0z c3_0)) (fun x1z x1 x2 x10 c3_0z c3_0 => G impl_leastOf.K1 (impl_leastOf.N1 x1z x1 x2 x10 c3_0z c3_0)) (impl_leastOf.f k) k yx1z yx1 yx2 yx10 yc3_0z yc3_0 := by kernel_rfl
theorem impl_leastOf.b_nat {R R' : Type} (e : R → R') (ret : Bool × List Int → Option R) (j0 : Bool → (List Int) → Int → Int → Bool → (List T) → Option R) (j1 : Bool → (List Int) → Int → Int → Bool → (List T) → Option R) (self : Bool → (List T) → Bool → (List Int) → Int → Option (Bool × List Int)) (k : Nat) (a0_0z : Bool) (a0_0 : List T) (a1z : Bool) (a1 : List Int) (a2 : Int) : impl_leastOf.b (fun r => (ret r).map e) (fun x1z x1 x2 x9 c3_0z c3_0 => (j0 x1z x1 x2 x9 c3_0z c3_0).map e) (fun x1z x1 x2 x10 c3_0z c3_0 => (j1 x1z x1 x2 x10 c3_0z c3_0).map e) self k a0_0z a0_0 a1z a1 a2 = (impl_leastOf.b ret j0 j1 self k a0_0z a0_0 a1z a1 a2).map e := by
  unfold impl_leastOf.b
  repeat' first | with_reducible refine nat_cond ?_ ?_ | with_reducible refine nat_bind fun _ => ?_ | rfl
theorem impl_leastOf.l0b_nat {R R' : Type} (e : R → R') (ret : Bool × List Int → Option R) (j0 : Bool → (List Int) → Int → Int → Bool → (List T) → Option R) (j1 : Bool → (List Int) → Int → Int → Bool → (List T) → Option R) (self : Bool → (List T) → Bool → (List Int) → Int → Option (Bool × List Int)) (k : Nat) (x1z : Bool) (x1 : List Int) (x2 : Int) (x9 : Int) (c3_0z : Bool) (c3_0 : List T) : impl_leastOf.l0b (fun r => (ret r).map e) (fun x1z x1 x2 x9 c3_0z c3_0 => (j0 x1z x1 x2 x9 c3_0z c3_0).map e) (fun x1z x1 x2 x10 c3_0z c3_0 => (j1 x1z x1 x2 x10 c3_0z c3_0).map e) self k x1z x1 x2 x9 c3_0z c3_0 = (impl_leastOf.l0b ret j0 j1 self k x1z x1 x2 x9 c3_0z c3_0).map e := by
  unfold impl_leastOf.l0b
  repeat' first | with_reducible refine nat_cond ?_ ?_ | with_reducible refine nat_bind fun _ => ?_ | rfl
theorem impl_leastOf.l1b_nat {R R' : Type} (e : R → R') (ret : Bool × List Int → Option R) (j0 : Bool → (List Int) → Int → Int → Bool → (List T) → Option R) (j1 : Bool → (List Int) → Int → Int → Bool → (List T) → Option R) (self : Bool → (List T) → Bool → (List Int) → Int → Option (Bool × List Int)) (k : Nat) (x1z : Bool) (x1 : List Int) (x2 : Int) (x10 : Int) (c3_0z : Bool) (c3_0 : List T) : impl_leastOf.l1b (fun r => (ret r).map e) (fun x1z x1 x2 x9 c3_0z c3_0 => (j0 x1z x1 x2 x9 c3_0z c3_0).map e) (fun x1z x1 x2 x10 c3_0z c3_0 => (j1 x1z x1 x2 x10 c3_0z c3_0).map e) self k x1z x1 x2 x10 c3_0z c3_0 = (impl_leastOf.l1b ret j0 j1 self k x1z x1 x2 x10 c3_0z c3_0).map e := by
  unfold impl_leastOf.l1b
  repeat' first | with_reducible refine nat_cond ?_ ?_ | with_reducible refine nat_bind fun _ => ?_ | rfl
theorem impl_leastOf.rounds_eq (a0_0z : Bool) (a0_0 : List T) (a1z : Bool) (a1 : List Int) (a2 : Int) : ∀ k, (∀ (x1z : Bool) (x1 : List Int) (x2 : Int) (x9 : Int) (c3_0z : Bool) (c3_0 : List T), rounds Try.prog impl_leastOf.Cs (finish Try.prog [] Try.f137 [.v (.agg [(.sl 160 a0_0z a0_0)]), .v (.nums 3 .i64 a1z a1), .v (.int .i64 a2)]) 100000 k impl_leastOf.K0 (impl_leastOf.N0 x1z x1 x2 x9 c3_0z c3_0) = (impl_leastOf.l0 k x1z x1 x2 x9 c3_0z c3_0).map impl_leastOf.enc) ∧ (∀ (x1z : Bool) (x1 : List Int) (x2 : Int) (x10 : Int) (c3_0z : Bool) (c3_0 : List T), rounds Try.prog impl_leastOf.Cs (finish Try.prog [] Try.f137 [.v (.agg [(.sl 160 a0_0z a0_0)]), .v (.nums 3 .i64 a1z a1), .v (.int .i64 a2)]) 100000 k impl_leastOf.K1 (impl_leastOf.N1 x1z x1 x2 x10 c3_0z c3_0) = (impl_leastOf.l1 k x1z x1 x2 x10 c3_0z c3_0).map impl_leastOf.enc)
  | 0 => ⟨fun _ _ _ _ _ _ => rfl, fun _ _ _ _ _ _ => rfl⟩
  | k + 1 => by
    have ih := impl_leastOf.rounds_eq a0_0z a0_0 a1z a1 a2 k
    refine ⟨fun _ _ _ _ _ _ => ?_, fun _ _ _ _ _ _ => ?_⟩
    · refine (impl_leastOf.s0 k _ a0_0z a0_0 a1z a1 a2 _ _ _ _ _ _).trans (Eq.trans ?_ (impl_leastOf.l0b_nat impl_leastOf.enc some (impl_leastOf.l0 k) (impl_leastOf.l1 k) (impl_leastOf.f k) k _ _ _ _ _ _))
      simp only [ih.1, ih.2, Option.map_some]
    · refine (impl_leastOf.s1 k _ a0_0z a0_0 a1z a1 a2 _ _ _ _ _ _).trans (Eq.trans ?_ (impl_leastOf.l1b_nat impl_leastOf.enc some (impl_leastOf.l0 k) (impl_leastOf.l1 k) (impl_leastOf.f k) k _ _ _ _ _ _))
      simp only [ih.1, ih.2, Option.map_some]
theorem impl_leastOf.eq (k : Nat) (a0_0z : Bool) (a0_0 : List T) (a1z : Bool) (a1 : List Int) (a2 : Int) : answer Try.prog impl_leastOf.Cs 100000 impl_leastOf.cuts [] Try.f137 (k + 1) [.v (.agg [(.sl 160 a0_0z a0_0)]), .v (.nums 3 .i64 a1z a1), .v (.int .i64 a2)] = (impl_leastOf.f (k + 1) a0_0z a0_0 a1z a1 a2).map impl_leastOf.enc := by
  have ih := impl_leastOf.rounds_eq a0_0z a0_0 a1z a1 a2 k
  refine (impl_leastOf.s k a0_0z a0_0 a1z a1 a2).trans (Eq.trans ?_ (impl_leastOf.b_nat impl_leastOf.enc some (impl_leastOf.l0 k) (impl_leastOf.l1 k) (impl_leastOf.f k) k a0_0z a0_0 a1z a1 a2))
  simp only [ih.1, ih.2, Option.map_some]
theorem impl_leastOf.sound (k : Nat) : SoundF Try.prog 137 (fun a => (impl_leastOf.ans k a).val) := by
  induction k using Nat.strongRecOn with
  | _ k sih =>
  match k, sih with
  | 0, _ =>
    refine sound_plain (fun args res h => ?_) (fun t n => rfl)
    unfold impl_leastOf.ans at h
    dsimp only at h
    split at h
    · cases h
    · exact (Ans.no_val h).elim
  | k + 1, sih =>
    refine sound_plain (fun args res h => ?_) (fun t n => rfl)
    unfold impl_leastOf.ans at h
    dsimp only at h
    split at h
    · unfold Ans.val at h
      rw [← impl_leastOf.eq] at h
      exact answer_sound mixed Try.func137 _ _ _ (k + 1) (fun j hj => tab_sound (tab_cons (impl_BitsOf.sound j) (tab_cons (impl_IsQuorum.sound j) (tab_cons (sih j hj) (tab_nil))))) _ _ h
    · exact (Ans.no_val h).elim

/-! loop.example/g00790/impl.Least -/
def impl_Least.b {R : Type} (ret : Bool × List Int → Option R) (j0 : Int → Int → Bool → (List T) → Option R) (k : Nat) (a0_0z : Bool) (a0_0 : List T) : Option R :=
  (impl_TableOk.f k a0_0z a0_0).bind fun t0 => cond (!t0) (ret (true, ([] : List Int))) (j0 ((a0_0).length : Int) 1 a0_0z a0_0)
def impl_Least.l0b {R : Type} (ret : Bool × List Int → Option R) (j0 : Int → Int → Bool → (List T) → Option R) (k : Nat) (x3 : Int) (x4 : Int) (c1_0z : Bool) (c1_0 : List T) : Option R :=
  cond (decide (x4 ≤ x3)) ((impl_leastOf.f k c1_0z c1_0 true ([] : List Int) x4).bind fun t0 => cond (!t0.1) (ret (t0.1, t0.2)) (j0 x3 (RowKit.wrap64 (x4 + 1)) c1_0z c1_0)) (ret (true, ([] : List Int)))
def impl_Least.l0 : Nat → Int → Int → Bool → (List T) → Option (Bool × List Int)
  | 0, _, _, _, _ => none
  | k + 1, x3, x4, c1_0z, c1_0 => impl_Least.l0b some (impl_Least.l0 k) k x3 x4 c1_0z c1_0
def impl_Least.f : Nat → Bool → (List T) → Option (Bool × List Int)
  | 0, _, _ => none
  | k + 1, a0_0z, a0_0 => impl_Least.b some (impl_Least.l0 k) k a0_0z a0_0
def impl_Least.enc (r : Bool × List Int) : Res := ⟨[.vals false [((.nums 5 .u8 r.1 r.2), true)]], []⟩
def impl_Least.ans (k : Nat) : List Arg → Ans
  | [.v (.agg [(.sl 160 a0_0z a0_0)])] => ⟨impl_Least.f k a0_0z a0_0, impl_Least.enc⟩
  | _ => Ans.no
def impl_Least.Cs (k : Nat) : CallSem := tab [(125, impl_TableOk.ans k), (137, impl_leastOf.ans k)]
def impl_Least.cuts : List (Nat × Keep) := [(122, ⟨[(1, some []), (3, some []), (4, some [])], [(1, [some []])]⟩)]
noncomputable def impl_Least.K0 : List Fr := framesAt [true, true, true, false, true, false] (bodyOf Try.f58 impl_Least.cuts) []
def impl_Least.N0 (x3 : Int) (x4 : Int) (c1_0z : Bool) (c1_0 : List T) : St := stOf 23 23 1 [(1, .bp 1 0), (3, .val (V.s (.int .i64 x3))), (4, .val (V.s (.int .i64 x4)))] [(1, .cells [⟨(.sl 160 c1_0z c1_0), [], false, none⟩])]
theorem impl_Least.s (k : Nat) (a0_0z : Bool) (a0_0 : List T) : answer Try.prog impl_Least.Cs 100000 impl_Least.cuts [] Try.f58 (k + 1) [.v (.agg [(.sl 160 a0_0z a0_0)])] = impl_Least.b (fun r => some (impl_Least.enc r)) (fun x3 x4 c1_0z c1_0 => rounds Try.prog impl_Least.Cs (finish Try.prog [] Try.f58 [.v (.agg [(.sl 160 a0_0z a0_0)])]) 100000 k impl_Least.K0 (impl_Least.N0 x3 x4 c1_0z c1_0)) k a0_0z a0_0 := by kernel_rfl
theorem impl_Least.s0 (k : Nat) (G : List Fr → St → Option Res) (a0_0z : Bool) (a0_0 : List T) (yx3 : Int) (yx4 : Int) (yc1_0z : Bool) (yc1_0 : List T) : resume Try.prog (impl_Least.Cs k) G (finish Try.prog [] Try.f58 [.v (.agg [(.sl 160 a0_0z a0_0)])]) 100000 impl_Least.K0 (impl_Least.N0 yx3 yx4 yc1_0z yc1_0) = impl_Least.l0b (fun r => some (impl_Least.enc r)) (fun x3 x4 c1_0z c1_0 => G impl_Least.K0 (impl_Least.N0 x3 x4 c1_0z c1_0)) k yx3 yx4 yc1_0z yc1_0 := by kernel_rfl
theorem impl_Least.b_nat {R R' : Type} (e : R → R') (ret : Bool × List Int → Option R) (j0 : Int → Int → Bool → (List T) → Option R) (k : Nat) (a0_0z : Bool) (a0_0 : List T) : impl_Least.b (fun r => (ret r).map e) (fun x3 x4 c1_0z c1_0 => (j0 x3 x4 c1_0z c1_0).map e) k a0_0z a0_0 = (impl_Least.b ret j0 k a0_0z a0_0).map e := by
  unfold impl_Least.b
  repeat' first | with_reducible refine nat_cond ?_ ?_ | with_reducible refine nat_bind fun _ => ?_ | rfl
theorem impl_Least.l0b_nat {R R' : Type} (e : R → R') (ret : Bool × List Int → Option R) (j0 : Int → Int → Bool → (List T) → Option R) (k : Nat) (x3 : Int) (x4 : Int) (c1_0z : Bool) (c1_0 : List T) : impl_Least.l0b (fun r => (ret r).map e) (fun x3 x4 c1_0z c1_0 => (j0 x3 x4 c1_0z c1_0).map e) k x3 x4 c1_0z c1_0 = (impl_Least.l0b ret j0 k x3 x4 c1_0z c1_0).map e := by
  unfold impl_Least.l0b
  repeat' first | with_reducible refine nat_cond ?_ ?_ | with_reducible refine nat_bind fun _ => ?_ | rfl
theorem impl_Least.rounds_eq (a0_0z : Bool) (a0_0 : List T) : ∀ k, (∀ (x3 : Int) (x4 : Int) (c1_0z : Bool) (c1_0 : List T), rounds Try.prog impl_Least.Cs (finish Try.prog [] Try.f58 [.v (.agg [(.sl 160 a0_0z a0_0)])]) 100000 k impl_Least.K0 (impl_Least.N0 x3 x4 c1_0z c1_0) = (impl_Least.l0 k x3 x4 c1_0z c1_0).map impl_Least.enc)
  | 0 => fun _ _ _ _ => rfl
  | k + 1 => by
    have ih := impl_Least.rounds_eq a0_0z a0_0 k
    refine fun _ _ _ _ => ?_
    · refine (impl_Least.s0 k _ a0_0z a0_0 _ _ _ _).trans (Eq.trans ?_ (impl_Least.l0b_nat impl_Least.enc some (impl_Least.l0 k) k _ _ _ _))
      simp only [ih, Option.map_some]
theorem impl_Least.eq (k : Nat) (a0_0z : Bool) (a0_0 : List T) : answer Try.prog impl_Least.Cs 100000 impl_Least.cuts [] Try.f58 (k + 1) [.v (.agg [(.sl 160 a0_0z a0_0)])] = (impl_Least.f (k + 1) a0_0z a0_0).map impl_Least.enc := by
  have ih := impl_Least.rounds_eq a0_0z a0_0 k
  refine (impl_Least.s k a0_0z a0_0).trans (Eq.trans ?_ (impl_Least.b_nat impl_Least.enc some (impl_Least.l0 k) k a0_0z a0_0))
  simp only [ih, Option.map_some]
theorem impl_Least.sound (k : Nat) : SoundF Try.prog 58 (fun a => (impl_Least.ans k a).val) := by
  refine sound_plain (fun args res h => ?_) (fun t n => rfl)
  unfold impl_Least.ans at h
  dsimp only at h
  split at h
  · cases k with
    | zero => cases h
    | succ k =>
      unfold Ans.val at h
      rw [← impl_Least.eq] at h
      exact answer_sound mixed Try.func58 _ _ _ (k + 1) (fun j _ => tab_sound (tab_cons (impl_TableOk.sound j) (tab_cons (impl_leastOf.sound j) (tab_nil)))) _ _ h
  · exact (Ans.no_val h).elim

/-! loop.example/g00790/laws.eqByteS -/
def laws_eqByteS.b {R : Type} (ret : Bool → Option R) (j0 : Bool → (List Int) → Bool → (List Int) → Int → Option R) (k : Nat) (a0z : Bool) (a0 : List Int) (a1z : Bool) (a1 : List Int) : Option R :=
  cond (!(decide (((a0).length : Int) = ((a1).length : Int)))) (ret false) (j0 a0z a0 a1z a1 0)
def laws_eqByteS.l0b {R : Type} (ret : Bool → Option R) (j0 : Bool → (List Int) → Bool → (List Int) → Int → Option R) (k : Nat) (x0z : Bool) (x0 : List Int) (x1z : Bool) (x1 : List Int) (x5 : Int) : Option R :=
  cond (decide (x5 < ((x0).length : Int))) (cond (decide ((0 : Int) ≤ x5)) (cond (decide (x5 < ((x0).length : Int))) (cond (decide ((0 : Int) ≤ x5)) (cond (decide (x5 < ((x1).length : Int))) (cond (!(decide ((rdI x0 x5) = (rdI x1 x5)))) (ret false) (j0 x0z x0 x1z x1 (RowKit.wrap64 (x5 + 1)))) (none)) (none)) (none)) (none)) (ret true)
def laws_eqByteS.l0 : Nat → Bool → (List Int) → Bool → (List Int) → Int → Option Bool
  | 0, _, _, _, _, _ => none
  | k + 1, x0z, x0, x1z, x1, x5 => laws_eqByteS.l0b some (laws_eqByteS.l0 k) k x0z x0 x1z x1 x5
def laws_eqByteS.f : Nat → Bool → (List Int) → Bool → (List Int) → Option Bool
  | 0, _, _, _, _ => none
  | k + 1, a0z, a0, a1z, a1 => laws_eqByteS.b some (laws_eqByteS.l0 k) k a0z a0 a1z a1
def laws_eqByteS.enc (r : Bool) : Res := ⟨[.vals false [((.bool r), true)]], []⟩
def laws_eqByteS.ans (k : Nat) : List Arg → Ans
  | [.v (.nums 5 .u8 a0z a0), .v (.nums 5 .u8 a1z a1)] => ⟨laws_eqByteS.f k a0z a0 a1z a1, laws_eqByteS.enc⟩
  | _ => Ans.no
def laws_eqByteS.Cs (k : Nat) : CallSem := tab []
def laws_eqByteS.cuts : List (Nat × Keep) := [(58, ⟨[(0, some []), (1, some []), (5, some [])], []⟩)]
noncomputable def laws_eqByteS.K0 : List Fr := framesAt [true, true, false, true, false] (bodyOf Try.f53 laws_eqByteS.cuts) []
def laws_eqByteS.N0 (x0z : Bool) (x0 : List Int) (x1z : Bool) (x1 : List Int) (x5 : Int) : St := stOf 26 26 2 [(0, .val ⟨(.nums 5 .u8 x0z x0), [], false, none⟩), (1, .val ⟨(.nums 5 .u8 x1z x1), [], false, none⟩), (5, .val (V.s (.int .i64 x5)))] []
theorem laws_eqByteS.s (k : Nat) (a0z : Bool) (a0 : List Int) (a1z : Bool) (a1 : List Int) : answer Try.prog laws_eqByteS.Cs 100000 laws_eqByteS.cuts [] Try.f53 (k + 1) [.v (.nums 5 .u8 a0z a0), .v (.nums 5 .u8 a1z a1)] = laws_eqByteS.b (fun r => some (laws_eqByteS.enc r)) (fun x0z x0 x1z x1 x5 => rounds Try.prog laws_eqByteS.Cs (finish Try.prog [] Try.f53 [.v (.nums 5 .u8 a0z a0), .v (.nums 5 .u8 a1z a1)]) 100000 k laws_eqByteS.K0 (laws_eqByteS.N0 x0z x0 x1z x1 x5)) k a0z a0 a1z a1 := by kernel_rfl
theorem laws_eqByteS.s0 (k : Nat) (G : List Fr → St → Option Res) (a0z : Bool) (a0 : List Int) (a1z : Bool) (a1 : List Int) (yx0z : Bool) (yx0 : List Int) (yx1z : Bool) (yx1 : List Int) (yx5 : Int) : resume Try.prog (laws_eqByteS.Cs k) G (finish Try.prog [] Try.f53 [.v (.nums 5 .u8 a0z a0), .v (.nums 5 .u8 a1z a1)]) 100000 laws_eqByteS.K0 (laws_eqByteS.N0 yx0z yx0 yx1z yx1 yx5) = laws_eqByteS.l0b (fun r => some (laws_eqByteS.enc r)) (fun x0z x0 x1z x1 x5 => G laws_eqByteS.K0 (laws_eqByteS.N0 x0z x0 x1z x1 x5)) k yx0z yx0 yx1z yx1 yx5 := by kernel_rfl
theorem laws_eqByteS.b_nat {R R' : Type} (e : R → R') (ret : Bool → Option R) (j0 : Bool → (List Int) → Bool → (List Int) → Int → Option R) (k : Nat) (a0z : Bool) (a0 : List Int) (a1z : Bool) (a1 : List Int) : laws_eqByteS.b (fun r => (ret r).map e) (fun x0z x0 x1z x1 x5 => (j0 x0z x0 x1z x1 x5).map e) k a0z a0 a1z a1 = (laws_eqByteS.b ret j0 k a0z a0 a1z a1).map e := by
  unfold laws_eqByteS.b
  repeat' first | with_reducible refine nat_cond ?_ ?_ | with_reducible refine nat_bind fun _ => ?_ | rfl
theorem laws_eqByteS.l0b_nat {R R' : Type} (e : R → R') (ret : Bool → Option R) (j0 : Bool → (List Int) → Bool → (List Int) → Int → Option R) (k : Nat) (x0z : Bool) (x0 : List Int) (x1z : Bool) (x1 : List Int) (x5 : Int) : laws_eqByteS.l0b (fun r => (ret r).map e) (fun x0z x0 x1z x1 x5 => (j0 x0z x0 x1z x1 x5).map e) k x0z x0 x1z x1 x5 = (laws_eqByteS.l0b ret j0 k x0z x0 x1z x1 x5).map e := by
  unfold laws_eqByteS.l0b
  repeat' first | with_reducible refine nat_cond ?_ ?_ | with_reducible refine nat_bind fun _ => ?_ | rfl
theorem laws_eqByteS.rounds_eq (a0z : Bool) (a0 : List Int) (a1z : Bool) (a1 : List Int) : ∀ k, (∀ (x0z : Bool) (x0 : List Int) (x1z : Bool) (x1 : List Int) (x5 : Int), rounds Try.prog laws_eqByteS.Cs (finish Try.prog [] Try.f53 [.v (.nums 5 .u8 a0z a0), .v (.nums 5 .u8 a1z a1)]) 100000 k laws_eqByteS.K0 (laws_eqByteS.N0 x0z x0 x1z x1 x5) = (laws_eqByteS.l0 k x0z x0 x1z x1 x5).map laws_eqByteS.enc)
  | 0 => fun _ _ _ _ _ => rfl
  | k + 1 => by
    have ih := laws_eqByteS.rounds_eq a0z a0 a1z a1 k
    refine fun _ _ _ _ _ => ?_
    · refine (laws_eqByteS.s0 k _ a0z a0 a1z a1 _ _ _ _ _).trans (Eq.trans ?_ (laws_eqByteS.l0b_nat laws_eqByteS.enc some (laws_eqByteS.l0 k) k _ _ _ _ _))
      simp only [ih, Option.map_some]
theorem laws_eqByteS.eq (k : Nat) (a0z : Bool) (a0 : List Int) (a1z : Bool) (a1 : List Int) : answer Try.prog laws_eqByteS.Cs 100000 laws_eqByteS.cuts [] Try.f53 (k + 1) [.v (.nums 5 .u8 a0z a0), .v (.nums 5 .u8 a1z a1)] = (laws_eqByteS.f (k + 1) a0z a0 a1z a1).map laws_eqByteS.enc := by
  have ih := laws_eqByteS.rounds_eq a0z a0 a1z a1 k
  refine (laws_eqByteS.s k a0z a0 a1z a1).trans (Eq.trans ?_ (laws_eqByteS.b_nat laws_eqByteS.enc some (laws_eqByteS.l0 k) k a0z a0 a1z a1))
  simp only [ih, Option.map_some]
theorem laws_eqByteS.sound (k : Nat) : SoundF Try.prog 53 (fun a => (laws_eqByteS.ans k a).val) := by
  refine sound_plain (fun args res h => ?_) (fun t n => rfl)
  unfold laws_eqByteS.ans at h
  dsimp only at h
  split at h
  · cases k with
    | zero => cases h
    | succ k =>
      unfold Ans.val at h
      rw [← laws_eqByteS.eq] at h
      exact answer_sound mixed Try.func53 _ _ _ (k + 1) (fun j _ => tab_sound (tab_nil)) _ _ h
  · exact (Ans.no_val h).elim

/-! loop.example/g00790/laws.eqRow -/
def laws_eqRow.b {R : Type} (ret : Bool → Option R) (k : Nat) (a0_0 : Int) (a0_1z : Bool) (a0_1 : List Int) (a1_0 : Int) (a1_1z : Bool) (a1_1 : List Int) : Option R :=
  cond (!(decide (a0_0 = a1_0))) (ret false) ((laws_eqByteS.f k a0_1z a0_1 a1_1z a1_1).bind fun t0 => cond (!t0) (ret false) (ret true))
def laws_eqRow.f : Nat → Int → Bool → (List Int) → Int → Bool → (List Int) → Option Bool
  | 0, _, _, _, _, _, _ => none
  | k + 1, a0_0, a0_1z, a0_1, a1_0, a1_1z, a1_1 => laws_eqRow.b some k a0_0 a0_1z a0_1 a1_0 a1_1z a1_1
def laws_eqRow.enc (r : Bool) : Res := ⟨[.vals false [((.bool r), true)]], []⟩
def laws_eqRow.ans (k : Nat) : List Arg → Ans
  | [.v (.agg [(.int .i64 a0_0), (.nums 5 .u8 a0_1z a0_1)]), .v (.agg [(.int .i64 a1_0), (.nums 5 .u8 a1_1z a1_1)])] => ⟨laws_eqRow.f k a0_0 a0_1z a0_1 a1_0 a1_1z a1_1, laws_eqRow.enc⟩
  | _ => Ans.no
def laws_eqRow.Cs (k : Nat) : CallSem := tab [(53, laws_eqByteS.ans k)]
def laws_eqRow.cuts : List (Nat × Keep) := []
theorem laws_eqRow.s (k : Nat) (a0_0 : Int) (a0_1z : Bool) (a0_1 : List Int) (a1_0 : Int) (a1_1z : Bool) (a1_1 : List Int) : answer Try.prog laws_eqRow.Cs 100000 laws_eqRow.cuts [] Try.f176 (k + 1) [.v (.agg [(.int .i64 a0_0), (.nums 5 .u8 a0_1z a0_1)]), .v (.agg [(.int .i64 a1_0), (.nums 5 .u8 a1_1z a1_1)])] = laws_eqRow.b (fun r => some (laws_eqRow.enc r)) k a0_0 a0_1z a0_1 a1_0 a1_1z a1_1 := by kernel_rfl
theorem laws_eqRow.b_nat {R R' : Type} (e : R → R') (ret : Bool → Option R) (k : Nat) (a0_0 : Int) (a0_1z : Bool) (a0_1 : List Int) (a1_0 : Int) (a1_1z : Bool) (a1_1 : List Int) : laws_eqRow.b (fun r => (ret r).map e) k a0_0 a0_1z a0_1 a1_0 a1_1z a1_1 = (laws_eqRow.b ret k a0_0 a0_1z a0_1 a1_0 a1_1z a1_1).map e := by
  unfold laws_eqRow.b
  repeat' first | with_reducible refine nat_cond ?_ ?_ | with_reducible refine nat_bind fun _ => ?_ | rfl
theorem laws_eqRow.eq (k : Nat) (a0_0 : Int) (a0_1z : Bool) (a0_1 : List Int) (a1_0 : Int) (a1_1z : Bool) (a1_1 : List Int) : answer Try.prog laws_eqRow.Cs 100000 laws_eqRow.cuts [] Try.f176 (k + 1) [.v (.agg [(.int .i64 a0_0), (.nums 5 .u8 a0_1z a0_1)]), .v (.agg [(.int .i64 a1_0), (.nums 5 .u8 a1_1z a1_1)])] = (laws_eqRow.f (k + 1) a0_0 a0_1z a0_1 a1_0 a1_1z a1_1).map laws_eqRow.enc := by
  refine (laws_eqRow.s k a0_0 a0_1z a0_1 a1_0 a1_1z a1_1).trans (Eq.trans ?_ (laws_eqRow.b_nat laws_eqRow.enc some k a0_0 a0_1z a0_1 a1_0 a1_1z a1_1))
  simp only [Option.map_some]
theorem laws_eqRow.sound (k : Nat) : SoundF Try.prog 176 (fun a => (laws_eqRow.ans k a).val) := by
  refine sound_plain (fun args res h => ?_) (fun t n => rfl)
  unfold laws_eqRow.ans at h
  dsimp only at h
  split at h
  · cases k with
    | zero => cases h
    | succ k =>
      unfold Ans.val at h
      rw [← laws_eqRow.eq] at h
      exact answer_sound mixed Try.func176 _ _ _ (k + 1) (fun j _ => tab_sound (tab_cons (laws_eqByteS.sound j) (tab_nil))) _ _ h
  · exact (Ans.no_val h).elim

/-! loop.example/g00790/laws.eqRowS -/
def laws_eqRowS.b {R : Type} (ret : Bool → Option R) (j0 : Bool → (List T) → Bool → (List T) → Int → Option R) (k : Nat) (a0z : Bool) (a0 : List T) (a1z : Bool) (a1 : List T) : Option R :=
  cond (!(decide (((a0).length : Int) = ((a1).length : Int)))) (ret false) (j0 a0z a0 a1z a1 0)
def laws_eqRowS.l0b {R : Type} (ret : Bool → Option R) (j0 : Bool → (List T) → Bool → (List T) → Int → Option R) (k : Nat) (x0z : Bool) (x0 : List T) (x1z : Bool) (x1 : List T) (x5 : Int) : Option R :=
  cond (decide (x5 < ((x0).length : Int))) (cond (decide ((0 : Int) ≤ x5)) (cond (decide (x5 < ((x0).length : Int))) (cond (decide ((0 : Int) ≤ x5)) (cond (decide (x5 < ((x1).length : Int))) ((laws_eqRow.f k (((((x0).getD (x5).toNat .bad).cells.getD 0 .bad)).toInt) (((((x0).getD (x5).toNat .bad).cells.getD 1 .bad)).isNil) (((((x0).getD (x5).toNat .bad).cells.getD 1 .bad)).toNums) (((((x1).getD (x5).toNat .bad).cells.getD 0 .bad)).toInt) (((((x1).getD (x5).toNat .bad).cells.getD 1 .bad)).isNil) (((((x1).getD (x5).toNat .bad).cells.getD 1 .bad)).toNums)).bind fun t0 => cond (!t0) (ret false) (j0 x0z x0 x1z x1 (RowKit.wrap64 (x5 + 1)))) (none)) (none)) (none)) (none)) (ret true)
def laws_eqRowS.l0 : Nat → Bool → (List T) → Bool → (List T) → Int → Option Bool
  | 0, _, _, _, _, _ => none
  | k + 1, x0z, x0, x1z, x1, x5 => laws_eqRowS.l0b some (laws_eqRowS.l0 k) k x0z x0 x1z x1 x5
def laws_eqRowS.f : Nat → Bool → (List T) → Bool → (List T) → Option Bool
  | 0, _, _, _, _ => none
  | k + 1, a0z, a0, a1z, a1 => laws_eqRowS.b some (laws_eqRowS.l0 k) k a0z a0 a1z a1
def laws_eqRowS.enc (r : Bool) : Res := ⟨[.vals false [((.bool r), true)]], []⟩
def laws_eqRowS.ans (k : Nat) : List Arg → Ans
  | [.v (.sl 160 a0z a0), .v (.sl 160 a1z a1)] => ⟨laws_eqRowS.f k a0z a0 a1z a1, laws_eqRowS.enc⟩
  | _ => Ans.no
def laws_eqRowS.Cs (k : Nat) : CallSem := tab [(176, laws_eqRow.ans k)]
def laws_eqRowS.cuts : List (Nat × Keep) := [(58, ⟨[(0, some []), (1, some []), (5, some [])], []⟩)]
noncomputable def laws_eqRowS.K0 : List Fr := framesAt [true, true, false, true, false] (bodyOf Try.f109 laws_eqRowS.cuts) []
def laws_eqRowS.N0 (x0z : Bool) (x0 : List T) (x1z : Bool) (x1 : List T) (x5 : Int) : St := stOf 27 27 2 [(0, .val ⟨(.sl 160 x0z x0), [], false, none⟩), (1, .val ⟨(.sl 160 x1z x1), [], false, none⟩), (5, .val (V.s (.int .i64 x5)))] []
theorem laws_eqRowS.s (k : Nat) (a0z : Bool) (a0 : List T) (a1z : Bool) (a1 : List T) : answer Try.prog laws_eqRowS.Cs 100000 laws_eqRowS.cuts [] Try.f109 (k + 1) [.v (.sl 160 a0z a0), .v (.sl 160 a1z a1)] = laws_eqRowS.b (fun r => some (laws_eqRowS.enc r)) (fun x0z x0 x1z x1 x5 => rounds Try.prog laws_eqRowS.Cs (finish Try.prog [] Try.f109 [.v (.sl 160 a0z a0), .v (.sl 160 a1z a1)]) 100000 k laws_eqRowS.K0 (laws_eqRowS.N0 x0z x0 x1z x1 x5)) k a0z a0 a1z a1 := by kernel_rfl
theorem laws_eqRowS.s0 (k : Nat) (G : List Fr → St → Option Res) (a0z : Bool) (a0 : List T) (a1z : Bool) (a1 : List T) (yx0z : Bool) (yx0 : List T) (yx1z : Bool) (yx1 : List T) (yx5 : Int) : resume Try.prog (laws_eqRowS.Cs k) G (finish Try.prog [] Try.f109 [.v (.sl 160 a0z a0), .v (.sl 160 a1z a1)]) 100000 laws_eqRowS.K0 (laws_eqRowS.N0 yx0z yx0 yx1z yx1 yx5) = laws_eqRowS.l0b (fun r => some (laws_eqRowS.enc r)) (fun x0z x0 x1z x1 x5 => G laws_eqRowS.K0 (laws_eqRowS.N0 x0z x0 x1z x1 x5)) k yx0z yx0 yx1z yx1 yx5 := by kernel_rfl
theorem laws_eqRowS.b_nat {R R' : Type} (e : R → R') (ret : Bool → Option R) (j0 : Bool → (List T) → Bool → (List T) → Int → Option R) (k : Nat) (a0z : Bool) (a0 : List T) (a1z : Bool) (a1 : List T) : laws_eqRowS.b (fun r => (ret r).map e) (fun x0z x0 x1z x1 x5 => (j0 x0z x0 x1z x1 x5).map e) k a0z a0 a1z a1 = (laws_eqRowS.b ret j0 k a0z a0 a1z a1).map e := by
  unfold laws_eqRowS.b
  repeat' first | with_reducible refine nat_cond ?_ ?_ | with_reducible refine nat_bind fun _ => ?_ | rfl
theorem laws_eqRowS.l0b_nat {R R' : Type} (e : R → R') (ret : Bool → Option R) (j0 : Bool → (List T) → Bool → (List T) → Int → Option R) (k : Nat) (x0z : Bool) (x0 : List T) (x1z : Bool) (x1 : List T) (x5 : Int) : laws_eqRowS.l0b (fun r => (ret r).map e) (fun x0z x0 x1z x1 x5 => (j0 x0z x0 x1z x1 x5).map e) k x0z x0 x1z x1 x5 = (laws_eqRowS.l0b ret j0 k x0z x0 x1z x1 x5).map e := by
  unfold laws_eqRowS.l0b
  repeat' first | with_reducible refine nat_cond ?_ ?_ | with_reducible refine nat_bind fun _ => ?_ | rfl
theorem laws_eqRowS.rounds_eq (a0z : Bool) (a0 : List T) (a1z : Bool) (a1 : List T) : ∀ k, (∀ (x0z : Bool) (x0 : List T) (x1z : Bool) (x1 : List T) (x5 : Int), rounds Try.prog laws_eqRowS.Cs (finish Try.prog [] Try.f109 [.v (.sl 160 a0z a0), .v (.sl 160 a1z a1)]) 100000 k laws_eqRowS.K0 (laws_eqRowS.N0 x0z x0 x1z x1 x5) = (laws_eqRowS.l0 k x0z x0 x1z x1 x5).map laws_eqRowS.enc)
  | 0 => fun _ _ _ _ _ => rfl
  | k + 1 => by
    have ih := laws_eqRowS.rounds_eq a0z a0 a1z a1 k
    refine fun _ _ _ _ _ => ?_
    · refine (laws_eqRowS.s0 k _ a0z a0 a1z a1 _ _ _ _ _).trans (Eq.trans ?_ (laws_eqRowS.l0b_nat laws_eqRowS.enc some (laws_eqRowS.l0 k) k _ _ _ _ _))
      simp only [ih, Option.map_some]
theorem laws_eqRowS.eq (k : Nat) (a0z : Bool) (a0 : List T) (a1z : Bool) (a1 : List T) : answer Try.prog laws_eqRowS.Cs 100000 laws_eqRowS.cuts [] Try.f109 (k + 1) [.v (.sl 160 a0z a0), .v (.sl 160 a1z a1)] = (laws_eqRowS.f (k + 1) a0z a0 a1z a1).map laws_eqRowS.enc := by
  have ih := laws_eqRowS.rounds_eq a0z a0 a1z a1 k
  refine (laws_eqRowS.s k a0z a0 a1z a1).trans (Eq.trans ?_ (laws_eqRowS.b_nat laws_eqRowS.enc some (laws_eqRowS.l0 k) k a0z a0 a1z a1))
  simp only [ih, Option.map_some]
theorem laws_eqRowS.sound (k : Nat) : SoundF Try.prog 109 (fun a => (laws_eqRowS.ans k a).val) := by
  refine sound_plain (fun args res h => ?_) (fun t n => rfl)
  unfold laws_eqRowS.ans at h
  dsimp only at h
  split at h
  · cases k with
    | zero => cases h
    | succ k =>
      unfold Ans.val at h
      rw [← laws_eqRowS.eq] at h
      exact answer_sound mixed Try.func109 _ _ _ (k + 1) (fun j _ => tab_sound (tab_cons (laws_eqRow.sound j) (tab_nil))) _ _ h
  · exact (Ans.no_val h).elim

/-! loop.example/g00790/laws.eqTable -/
def laws_eqTable.b {R : Type} (ret : Bool → Option R) (k : Nat) (a0_0z : Bool) (a0_0 : List T) (a1_0z : Bool) (a1_0 : List T) : Option R :=
  (laws_eqRowS.f k a0_0z a0_0 a1_0z a1_0).bind fun t0 => cond (!t0) (ret false) (ret true)
def laws_eqTable.f : Nat → Bool → (List T) → Bool → (List T) → Option Bool
  | 0, _, _, _, _ => none
  | k + 1, a0_0z, a0_0, a1_0z, a1_0 => laws_eqTable.b some k a0_0z a0_0 a1_0z a1_0
def laws_eqTable.enc (r : Bool) : Res := ⟨[.vals false [((.bool r), true)]], []⟩
def laws_eqTable.ans (k : Nat) : List Arg → Ans
  | [.v (.agg [(.sl 160 a0_0z a0_0)]), .v (.agg [(.sl 160 a1_0z a1_0)])] => ⟨laws_eqTable.f k a0_0z a0_0 a1_0z a1_0, laws_eqTable.enc⟩
  | _ => Ans.no
def laws_eqTable.Cs (k : Nat) : CallSem := tab [(109, laws_eqRowS.ans k)]
def laws_eqTable.cuts : List (Nat × Keep) := []
theorem laws_eqTable.s (k : Nat) (a0_0z : Bool) (a0_0 : List T) (a1_0z : Bool) (a1_0 : List T) : answer Try.prog laws_eqTable.Cs 100000 laws_eqTable.cuts [] Try.f36 (k + 1) [.v (.agg [(.sl 160 a0_0z a0_0)]), .v (.agg [(.sl 160 a1_0z a1_0)])] = laws_eqTable.b (fun r => some (laws_eqTable.enc r)) k a0_0z a0_0 a1_0z a1_0 := by kernel_rfl
theorem laws_eqTable.b_nat {R R' : Type} (e : R → R') (ret : Bool → Option R) (k : Nat) (a0_0z : Bool) (a0_0 : List T) (a1_0z : Bool) (a1_0 : List T) : laws_eqTable.b (fun r => (ret r).map e) k a0_0z a0_0 a1_0z a1_0 = (laws_eqTable.b ret k a0_0z a0_0 a1_0z a1_0).map e := by
  unfold laws_eqTable.b
  repeat' first | with_reducible refine nat_cond ?_ ?_ | with_reducible refine nat_bind fun _ => ?_ | rfl
theorem laws_eqTable.eq (k : Nat) (a0_0z : Bool) (a0_0 : List T) (a1_0z : Bool) (a1_0 : List T) : answer Try.prog laws_eqTable.Cs 100000 laws_eqTable.cuts [] Try.f36 (k + 1) [.v (.agg [(.sl 160 a0_0z a0_0)]), .v (.agg [(.sl 160 a1_0z a1_0)])] = (laws_eqTable.f (k + 1) a0_0z a0_0 a1_0z a1_0).map laws_eqTable.enc := by
  refine (laws_eqTable.s k a0_0z a0_0 a1_0z a1_0).trans (Eq.trans ?_ (laws_eqTable.b_nat laws_eqTable.enc some k a0_0z a0_0 a1_0z a1_0))
  simp only [Option.map_some]
theorem laws_eqTable.sound (k : Nat) : SoundF Try.prog 36 (fun a => (laws_eqTable.ans k a).val) := by
  refine sound_plain (fun args res h => ?_) (fun t n => rfl)
  unfold laws_eqTable.ans at h
  dsimp only at h
  split at h
  · cases k with
    | zero => cases h
    | succ k =>
      unfold Ans.val at h
      rw [← laws_eqTable.eq] at h
      exact answer_sound mixed Try.func36 _ _ _ (k + 1) (fun j _ => tab_sound (tab_cons (laws_eqRowS.sound j) (tab_nil))) _ _ h
  · exact (Ans.no_val h).elim

/-! loop.example/g00790/laws.markByteS -/
def laws_markByteS.b {R : Type} (ret : Int × Bool × List Int → Option R) (j0 : Bool → (List Int) → Int → Int → Option R) (k : Nat) (a0z : Bool) (a0 : List Int) (a1 : Int) : Option R :=
  j0 a0z a0 a1 0
def laws_markByteS.l0b {R : Type} (ret : Int × Bool × List Int → Option R) (j0 : Bool → (List Int) → Int → Int → Option R) (k : Nat) (x0z : Bool) (x0 : List Int) (x1 : Int) (x5 : Int) : Option R :=
  cond (decide (x5 < ((x0).length : Int))) (cond (decide ((0 : Int) ≤ x5)) (cond (decide (x5 < ((x0).length : Int))) (j0 x0z ((x0).set (x5).toNat ((x1) % 256)) (RowKit.wrap64 (x1 + 1)) (RowKit.wrap64 (x5 + 1))) (none)) (none)) (ret (x1, x0z, x0))
def laws_markByteS.l0 : Nat → Bool → (List Int) → Int → Int → Option (Int × Bool × List Int)
  | 0, _, _, _, _ => none
  | k + 1, x0z, x0, x1, x5 => laws_markByteS.l0b some (laws_markByteS.l0 k) k x0z x0 x1 x5
def laws_markByteS.f : Nat → Bool → (List Int) → Int → Option (Int × Bool × List Int)
  | 0, _, _, _ => none
  | k + 1, a0z, a0, a1 => laws_markByteS.b some (laws_markByteS.l0 k) k a0z a0 a1
def laws_markByteS.enc (r : Int × Bool × List Int) : Res := ⟨[.vals false [((.int .i64 r.1), true)]], [[((.nums 5 .u8 r.2.1 r.2.2), true)]]⟩
def laws_markByteS.ans (k : Nat) : List Arg → Ans
  | [.own (.nums 5 .u8 a0z a0), .v (.int .i64 a1)] => ⟨laws_markByteS.f k a0z a0 a1, laws_markByteS.enc⟩
  | _ => Ans.no
def laws_markByteS.Cs (k : Nat) : CallSem := tab []
def laws_markByteS.cuts : List (Nat × Keep) := [(26, ⟨[(0, none), (1, some []), (5, some [])], []⟩)]
noncomputable def laws_markByteS.K0 : List Fr := framesAt [true, false, true, false] (bodyOf Try.f54 laws_markByteS.cuts) []
def laws_markByteS.N0 (x0z : Bool) (x0 : List Int) (x1 : Int) (x5 : Int) : St := stOf 20 20 2 [(0, .val ⟨(.nums 5 .u8 x0z x0), [.h 0], true, some (.h 0)⟩), (1, .val (V.s (.int .i64 x1))), (5, .val (V.s (.int .i64 x5)))] []
theorem laws_markByteS.s (k : Nat) (a0z : Bool) (a0 : List Int) (a1 : Int) : answerM Try.prog laws_markByteS.Cs 100000 laws_markByteS.cuts Try.f54 (k + 1) [.own (.nums 5 .u8 a0z a0), .v (.int .i64 a1)] = laws_markByteS.b (fun r => some (laws_markByteS.enc r)) (fun x0z x0 x1 x5 => rounds Try.prog laws_markByteS.Cs (finishM Try.prog Try.f54 (.nums 5 .u8 a0z a0)) 100000 k laws_markByteS.K0 (laws_markByteS.N0 x0z x0 x1 x5)) k a0z a0 a1 := by kernel_rfl
theorem laws_markByteS.s0 (k : Nat) (G : List Fr → St → Option Res) (a0z : Bool) (a0 : List Int) (a1 : Int) (yx0z : Bool) (yx0 : List Int) (yx1 : Int) (yx5 : Int) : resume Try.prog (laws_markByteS.Cs k) G (finishM Try.prog Try.f54 (.nums 5 .u8 a0z a0)) 100000 laws_markByteS.K0 (laws_markByteS.N0 yx0z yx0 yx1 yx5) = laws_markByteS.l0b (fun r => some (laws_markByteS.enc r)) (fun x0z x0 x1 x5 => G laws_markByteS.K0 (laws_markByteS.N0 x0z x0 x1 x5)) k yx0z yx0 yx1 yx5 := by kernel_rfl
theorem laws_markByteS.b_nat {R R' : Type} (e : R → R') (ret : Int × Bool × List Int → Option R) (j0 : Bool → (List Int) → Int → Int → Option R) (k : Nat) (a0z : Bool) (a0 : List Int) (a1 : Int) : laws_markByteS.b (fun r => (ret r).map e) (fun x0z x0 x1 x5 => (j0 x0z x0 x1 x5).map e) k a0z a0 a1 = (laws_markByteS.b ret j0 k a0z a0 a1).map e := by
  unfold laws_markByteS.b
  repeat' first | with_reducible refine nat_cond ?_ ?_ | with_reducible refine nat_bind fun _ => ?_ | rfl
theorem laws_markByteS.l0b_nat {R R' : Type} (e : R → R') (ret : Int × Bool × List Int → Option R) (j0 : Bool → (List Int) → Int → Int → Option R) (k : Nat) (x0z : Bool) (x0 : List Int) (x1 : Int) (x5 : Int) : laws_markByteS.l0b (fun r => (ret r).map e) (fun x0z x0 x1 x5 => (j0 x0z x0 x1 x5).map e) k x0z x0 x1 x5 = (laws_markByteS.l0b ret j0 k x0z x0 x1 x5).map e := by
  unfold laws_markByteS.l0b
  repeat' first | with_reducible refine nat_cond ?_ ?_ | with_reducible refine nat_bind fun _ => ?_ | rfl
theorem laws_markByteS.rounds_eq (a0z : Bool) (a0 : List Int) (a1 : Int) : ∀ k, (∀ (x0z : Bool) (x0 : List Int) (x1 : Int) (x5 : Int), rounds Try.prog laws_markByteS.Cs (finishM Try.prog Try.f54 (.nums 5 .u8 a0z a0)) 100000 k laws_markByteS.K0 (laws_markByteS.N0 x0z x0 x1 x5) = (laws_markByteS.l0 k x0z x0 x1 x5).map laws_markByteS.enc)
  | 0 => fun _ _ _ _ => rfl
  | k + 1 => by
    have ih := laws_markByteS.rounds_eq a0z a0 a1 k
    refine fun _ _ _ _ => ?_
    · refine (laws_markByteS.s0 k _ a0z a0 a1 _ _ _ _).trans (Eq.trans ?_ (laws_markByteS.l0b_nat laws_markByteS.enc some (laws_markByteS.l0 k) k _ _ _ _))
      simp only [ih, Option.map_some]
theorem laws_markByteS.eq (k : Nat) (a0z : Bool) (a0 : List Int) (a1 : Int) : answerM Try.prog laws_markByteS.Cs 100000 laws_markByteS.cuts Try.f54 (k + 1) [.own (.nums 5 .u8 a0z a0), .v (.int .i64 a1)] = (laws_markByteS.f (k + 1) a0z a0 a1).map laws_markByteS.enc := by
  have ih := laws_markByteS.rounds_eq a0z a0 a1 k
  refine (laws_markByteS.s k a0z a0 a1).trans (Eq.trans ?_ (laws_markByteS.b_nat laws_markByteS.enc some (laws_markByteS.l0 k) k a0z a0 a1))
  simp only [ih, Option.map_some]
theorem laws_markByteS.sound (k : Nat) : SoundF Try.prog 54 (fun a => (laws_markByteS.ans k a).val) := by
  refine sound_mark (fun args hne => ?_) (fun t n l m h => ?_)
  · unfold laws_markByteS.ans
    split
    · exact (hne _ _ rfl).elim
    · rfl
  unfold laws_markByteS.ans at h
  dsimp only at h
  split at h
  · rename_i heq
    cases heq
    cases k with
    | zero => cases h
    | succ k =>
      unfold Ans.val at h
      rw [← laws_markByteS.eq] at h
      exact answerM_sound (Cs := laws_markByteS.Cs) mixed Try.func54 100000 laws_markByteS.cuts (k + 1) (fun j _ => tab_sound (tab_nil)) _ _ _ _ h
  · exact (Ans.no_val h).elim

/-! loop.example/g00790/laws.markRowS -/
def laws_markRowS.b {R : Type} (ret : Int × Bool × List T → Option R) (j0 : Bool → (List T) → Int → Int → Option R) (k : Nat) (a0z : Bool) (a0 : List T) (a1 : Int) : Option R :=
  j0 a0z a0 a1 0
def laws_markRowS.l0b {R : Type} (ret : Int × Bool × List T → Option R) (j0 : Bool → (List T) → Int → Int → Option R) (k : Nat) (x0z : Bool) (x0 : List T) (x1 : Int) (x5 : Int) : Option R :=
  cond (decide (x5 < ((x0).length : Int))) (cond (decide ((0 : Int) ≤ x5)) (cond (decide (x5 < ((x0).length : Int))) (cond (decide ((0 : Int) ≤ x5)) (cond (decide (x5 < ((((x0).set (x5).toNat (.agg [(.int .i64 x1), (.nums 5 .u8 ((((x0).getD (x5).toNat .bad).cells.getD 1 .bad)).isNil ((((x0).getD (x5).toNat .bad).cells.getD 1 .bad)).toNums)]))).length : Int))) ((laws_markByteS.f k (((((((x0).set (x5).toNat (.agg [(.int .i64 x1), (.nums 5 .u8 ((((x0).getD (x5).toNat .bad).cells.getD 1 .bad)).isNil ((((x0).getD (x5).toNat .bad).cells.getD 1 .bad)).toNums)]))).getD (x5).toNat .bad).cells.getD 1 .bad)).isNil) (((((((x0).set (x5).toNat (.agg [(.int .i64 x1), (.nums 5 .u8 ((((x0).getD (x5).toNat .bad).cells.getD 1 .bad)).isNil ((((x0).getD (x5).toNat .bad).cells.getD 1 .bad)).toNums)]))).getD (x5).toNat .bad).cells.getD 1 .bad)).toNums) (RowKit.wrap64 (x1 + 1))).bind fun t0 => j0 x0z ((((x0).set (x5).toNat (.agg [(.int .i64 x1), (.nums 5 .u8 ((((x0).getD (x5).toNat .bad).cells.getD 1 .bad)).isNil ((((x0).getD (x5).toNat .bad).cells.getD 1 .bad)).toNums)]))).set (x5).toNat (.agg [(.int .i64 ((((((x0).set (x5).toNat (.agg [(.int .i64 x1), (.nums 5 .u8 ((((x0).getD (x5).toNat .bad).cells.getD 1 .bad)).isNil ((((x0).getD (x5).toNat .bad).cells.getD 1 .bad)).toNums)]))).getD (x5).toNat .bad).cells.getD 0 .bad)).toInt), (.nums 5 .u8 t0.2.1 t0.2.2)])) t0.1 (RowKit.wrap64 (x5 + 1))) (none)) (none)) (none)) (none)) (ret (x1, x0z, x0))
def laws_markRowS.l0 : Nat → Bool → (List T) → Int → Int → Option (Int × Bool × List T)
  | 0, _, _, _, _ => none
  | k + 1, x0z, x0, x1, x5 => laws_markRowS.l0b some (laws_markRowS.l0 k) k x0z x0 x1 x5
def laws_markRowS.f : Nat → Bool → (List T) → Int → Option (Int × Bool × List T)
  | 0, _, _, _ => none
  | k + 1, a0z, a0, a1 => laws_markRowS.b some (laws_markRowS.l0 k) k a0z a0 a1
def laws_markRowS.enc (r : Int × Bool × List T) : Res := ⟨[.vals false [((.int .i64 r.1), true)]], [[((.sl 160 r.2.1 r.2.2), true)]]⟩
def laws_markRowS.ans (k : Nat) : List Arg → Ans
  | [.own (.sl 160 a0z a0), .v (.int .i64 a1)] => ⟨laws_markRowS.f k a0z a0 a1, laws_markRowS.enc⟩
  | _ => Ans.no
def laws_markRowS.Cs (k : Nat) : CallSem := tab [(54, laws_markByteS.ans k)]
def laws_markRowS.cuts : List (Nat × Keep) := [(26, ⟨[(0, none), (1, some []), (5, some [])], []⟩)]
noncomputable def laws_markRowS.K0 : List Fr := framesAt [true, false, true, false] (bodyOf Try.f128 laws_markRowS.cuts) []
def laws_markRowS.N0 (x0z : Bool) (x0 : List T) (x1 : Int) (x5 : Int) : St := stOf 27 27 2 [(0, .val ⟨(.sl 160 x0z x0), [.h 0], true, some (.h 0)⟩), (1, .val (V.s (.int .i64 x1))), (5, .val (V.s (.int .i64 x5)))] []
theorem laws_markRowS.s (k : Nat) (a0z : Bool) (a0 : List T) (a1 : Int) : answerM Try.prog laws_markRowS.Cs 100000 laws_markRowS.cuts Try.f128 (k + 1) [.own (.sl 160 a0z a0), .v (.int .i64 a1)] = laws_markRowS.b (fun r => some (laws_markRowS.enc r)) (fun x0z x0 x1 x5 => rounds Try.prog laws_markRowS.Cs (finishM Try.prog Try.f128 (.sl 160 a0z a0)) 100000 k laws_markRowS.K0 (laws_markRowS.N0 x0z x0 x1 x5)) k a0z a0 a1 := by kernel_rfl
theorem laws_markRowS.s0 (k : Nat) (G : List Fr → St → Option Res) (a0z : Bool) (a0 : List T) (a1 : Int) (yx0z : Bool) (yx0 : List T) (yx1 : Int) (yx5 : Int) : resume Try.prog (laws_markRowS.Cs k) G (finishM Try.prog Try.f128 (.sl 160 a0z a0)) 100000 laws_markRowS.K0 (laws_markRowS.N0 yx0z yx0 yx1 yx5) = laws_markRowS.l0b (fun r => some (laws_markRowS.enc r)) (fun x0z x0 x1 x5 => G laws_markRowS.K0 (laws_markRowS.N0 x0z x0 x1 x5)) k yx0z yx0 yx1 yx5 := by kernel_rfl
theorem laws_markRowS.b_nat {R R' : Type} (e : R → R') (ret : Int × Bool × List T → Option R) (j0 : Bool → (List T) → Int → Int → Option R) (k : Nat) (a0z : Bool) (a0 : List T) (a1 : Int) : laws_markRowS.b (fun r => (ret r).map e) (fun x0z x0 x1 x5 => (j0 x0z x0 x1 x5).map e) k a0z a0 a1 = (laws_markRowS.b ret j0 k a0z a0 a1).map e := by
  unfold laws_markRowS.b
  repeat' first | with_reducible refine nat_cond ?_ ?_ | with_reducible refine nat_bind fun _ => ?_ | rfl
theorem laws_markRowS.l0b_nat {R R' : Type} (e : R → R') (ret : Int × Bool × List T → Option R) (j0 : Bool → (List T) → Int → Int → Option R) (k : Nat) (x0z : Bool) (x0 : List T) (x1 : Int) (x5 : Int) : laws_markRowS.l0b (fun r => (ret r).map e) (fun x0z x0 x1 x5 => (j0 x0z x0 x1 x5).map e) k x0z x0 x1 x5 = (laws_markRowS.l0b ret j0 k x0z x0 x1 x5).map e := by
  unfold laws_markRowS.l0b
  repeat' first | with_reducible refine nat_cond ?_ ?_ | with_reducible refine nat_bind fun _ => ?_ | rfl
theorem laws_markRowS.rounds_eq (a0z : Bool) (a0 : List T) (a1 : Int) : ∀ k, (∀ (x0z : Bool) (x0 : List T) (x1 : Int) (x5 : Int), rounds Try.prog laws_markRowS.Cs (finishM Try.prog Try.f128 (.sl 160 a0z a0)) 100000 k laws_markRowS.K0 (laws_markRowS.N0 x0z x0 x1 x5) = (laws_markRowS.l0 k x0z x0 x1 x5).map laws_markRowS.enc)
  | 0 => fun _ _ _ _ => rfl
  | k + 1 => by
    have ih := laws_markRowS.rounds_eq a0z a0 a1 k
    refine fun _ _ _ _ => ?_
    · refine (laws_markRowS.s0 k _ a0z a0 a1 _ _ _ _).trans (Eq.trans ?_ (laws_markRowS.l0b_nat laws_markRowS.enc some (laws_markRowS.l0 k) k _ _ _ _))
      simp only [ih, Option.map_some]
theorem laws_markRowS.eq (k : Nat) (a0z : Bool) (a0 : List T) (a1 : Int) : answerM Try.prog laws_markRowS.Cs 100000 laws_markRowS.cuts Try.f128 (k + 1) [.own (.sl 160 a0z a0), .v (.int .i64 a1)] = (laws_markRowS.f (k + 1) a0z a0 a1).map laws_markRowS.enc := by
  have ih := laws_markRowS.rounds_eq a0z a0 a1 k
  refine (laws_markRowS.s k a0z a0 a1).trans (Eq.trans ?_ (laws_markRowS.b_nat laws_markRowS.enc some (laws_markRowS.l0 k) k a0z a0 a1))
  simp only [ih, Option.map_some]
theorem laws_markRowS.sound (k : Nat) : SoundF Try.prog 128 (fun a => (laws_markRowS.ans k a).val) := by
  refine sound_mark (fun args hne => ?_) (fun t n l m h => ?_)
  · unfold laws_markRowS.ans
    split
    · exact (hne _ _ rfl).elim
    · rfl
  unfold laws_markRowS.ans at h
  dsimp only at h
  split at h
  · rename_i heq
    cases heq
    cases k with
    | zero => cases h
    | succ k =>
      unfold Ans.val at h
      rw [← laws_markRowS.eq] at h
      exact answerM_sound (Cs := laws_markRowS.Cs) mixed Try.func128 100000 laws_markRowS.cuts (k + 1) (fun j _ => tab_sound (tab_cons (laws_markByteS.sound j) (tab_nil))) _ _ _ _ h
  · exact (Ans.no_val h).elim

/-! loop.example/g00790/laws.markTable -/
def laws_markTable.b {R : Type} (ret : Int × Bool × List T → Option R) (k : Nat) (a0_0z : Bool) (a0_0 : List T) (a1 : Int) : Option R :=
  (laws_markRowS.f k a0_0z a0_0 a1).bind fun t0 => ret (t0.1, t0.2.1, t0.2.2)
def laws_markTable.f : Nat → Bool → (List T) → Int → Option (Int × Bool × List T)
  | 0, _, _, _ => none
  | k + 1, a0_0z, a0_0, a1 => laws_markTable.b some k a0_0z a0_0 a1
def laws_markTable.enc (r : Int × Bool × List T) : Res := ⟨[.vals false [((.int .i64 r.1), true)]], [[((.sl 160 r.2.1 r.2.2), true)]]⟩
def laws_markTable.ans (k : Nat) : List Arg → Ans
  | [.own (.agg [(.sl 160 a0_0z a0_0)]), .v (.int .i64 a1)] => ⟨laws_markTable.f k a0_0z a0_0 a1, laws_markTable.enc⟩
  | _ => Ans.no
def laws_markTable.Cs (k : Nat) : CallSem := tab [(128, laws_markRowS.ans k)]
def laws_markTable.cuts : List (Nat × Keep) := []
theorem laws_markTable.s (k : Nat) (a0_0z : Bool) (a0_0 : List T) (a1 : Int) : answerM Try.prog laws_markTable.Cs 100000 laws_markTable.cuts Try.f46 (k + 1) [.own (.agg [(.sl 160 a0_0z a0_0)]), .v (.int .i64 a1)] = laws_markTable.b (fun r => some (laws_markTable.enc r)) k a0_0z a0_0 a1 := by kernel_rfl
theorem laws_markTable.b_nat {R R' : Type} (e : R → R') (ret : Int × Bool × List T → Option R) (k : Nat) (a0_0z : Bool) (a0_0 : List T) (a1 : Int) : laws_markTable.b (fun r => (ret r).map e) k a0_0z a0_0 a1 = (laws_markTable.b ret k a0_0z a0_0 a1).map e := by
  unfold laws_markTable.b
  repeat' first | with_reducible refine nat_cond ?_ ?_ | with_reducible refine nat_bind fun _ => ?_ | rfl
theorem laws_markTable.eq (k : Nat) (a0_0z : Bool) (a0_0 : List T) (a1 : Int) : answerM Try.prog laws_markTable.Cs 100000 laws_markTable.cuts Try.f46 (k + 1) [.own (.agg [(.sl 160 a0_0z a0_0)]), .v (.int .i64 a1)] = (laws_markTable.f (k + 1) a0_0z a0_0 a1).map laws_markTable.enc := by
  refine (laws_markTable.s k a0_0z a0_0 a1).trans (Eq.trans ?_ (laws_markTable.b_nat laws_markTable.enc some k a0_0z a0_0 a1))
  simp only [Option.map_some]
theorem laws_markTable.sound (k : Nat) : SoundF Try.prog 46 (fun a => (laws_markTable.ans k a).val) := by
  refine sound_mark (fun args hne => ?_) (fun t n l m h => ?_)
  · unfold laws_markTable.ans
    split
    · exact (hne _ _ rfl).elim
    · rfl
  unfold laws_markTable.ans at h
  dsimp only at h
  split at h
  · rename_i heq
    cases heq
    cases k with
    | zero => cases h
    | succ k =>
      unfold Ans.val at h
      rw [← laws_markTable.eq] at h
      exact answerM_sound (Cs := laws_markTable.Cs) mixed Try.func46 100000 laws_markTable.cuts (k + 1) (fun j _ => tab_sound (tab_cons (laws_markRowS.sound j) (tab_nil))) _ _ _ _ h
  · exact (Ans.no_val h).elim

/-! loop.example/g00790/laws.heldByteS -/
def laws_heldByteS.b {R : Type} (ret : Int → Option R) (j0 : Bool → (List Int) → Int → Int → Option R) (k : Nat) (a0z : Bool) (a0 : List Int) (a1 : Int) : Option R :=
  j0 a0z a0 a1 0
def laws_heldByteS.l0b {R : Type} (ret : Int → Option R) (j0 : Bool → (List Int) → Int → Int → Option R) (k : Nat) (x0z : Bool) (x0 : List Int) (x1 : Int) (x5 : Int) : Option R :=
  cond (decide (x5 < ((x0).length : Int))) (cond (decide ((0 : Int) ≤ x5)) (cond (decide (x5 < ((x0).length : Int))) (cond (!(decide ((rdI x0 x5) = ((x1) % 256)))) (ret (-1)) (j0 x0z x0 (RowKit.wrap64 (x1 + 1)) (RowKit.wrap64 (x5 + 1)))) (none)) (none)) (ret x1)
def laws_heldByteS.l0 : Nat → Bool → (List Int) → Int → Int → Option Int
  | 0, _, _, _, _ => none
  | k + 1, x0z, x0, x1, x5 => laws_heldByteS.l0b some (laws_heldByteS.l0 k) k x0z x0 x1 x5
def laws_heldByteS.f : Nat → Bool → (List Int) → Int → Option Int
  | 0, _, _, _ => none
  | k + 1, a0z, a0, a1 => laws_heldByteS.b some (laws_heldByteS.l0 k) k a0z a0 a1
def laws_heldByteS.enc (r : Int) : Res := ⟨[.vals false [((.int .i64 r), true)]], []⟩
def laws_heldByteS.ans (k : Nat) : List Arg → Ans
  | [.v (.nums 5 .u8 a0z a0), .v (.int .i64 a1)] => ⟨laws_heldByteS.f k a0z a0 a1, laws_heldByteS.enc⟩
  | _ => Ans.no
def laws_heldByteS.Cs (k : Nat) : CallSem := tab []
def laws_heldByteS.cuts : List (Nat × Keep) := [(26, ⟨[(0, some []), (1, some []), (5, some [])], []⟩)]
noncomputable def laws_heldByteS.K0 : List Fr := framesAt [true, false, true, false] (bodyOf Try.f59 laws_heldByteS.cuts) []
def laws_heldByteS.N0 (x0z : Bool) (x0 : List Int) (x1 : Int) (x5 : Int) : St := stOf 22 22 2 [(0, .val ⟨(.nums 5 .u8 x0z x0), [], false, none⟩), (1, .val (V.s (.int .i64 x1))), (5, .val (V.s (.int .i64 x5)))] []
theorem laws_heldByteS.s (k : Nat) (a0z : Bool) (a0 : List Int) (a1 : Int) : answer Try.prog laws_heldByteS.Cs 100000 laws_heldByteS.cuts [] Try.f59 (k + 1) [.v (.nums 5 .u8 a0z a0), .v (.int .i64 a1)] = laws_heldByteS.b (fun r => some (laws_heldByteS.enc r)) (fun x0z x0 x1 x5 => rounds Try.prog laws_heldByteS.Cs (finish Try.prog [] Try.f59 [.v (.nums 5 .u8 a0z a0), .v (.int .i64 a1)]) 100000 k laws_heldByteS.K0 (laws_heldByteS.N0 x0z x0 x1 x5)) k a0z a0 a1 := by kernel_rfl
theorem laws_heldByteS.s0 (k : Nat) (G : List Fr → St → Option Res) (a0z : Bool) (a0 : List Int) (a1 : Int) (yx0z : Bool) (yx0 : List Int) (yx1 : Int) (yx5 : Int) : resume Try.prog (laws_heldByteS.Cs k) G (finish Try.prog [] Try.f59 [.v (.nums 5 .u8 a0z a0), .v (.int .i64 a1)]) 100000 laws_heldByteS.K0 (laws_heldByteS.N0 yx0z yx0 yx1 yx5) = laws_heldByteS.l0b (fun r => some (laws_heldByteS.enc r)) (fun x0z x0 x1 x5 => G laws_heldByteS.K0 (laws_heldByteS.N0 x0z x0 x1 x5)) k yx0z yx0 yx1 yx5 := by kernel_rfl
theorem laws_heldByteS.b_nat {R R' : Type} (e : R → R') (ret : Int → Option R) (j0 : Bool → (List Int) → Int → Int → Option R) (k : Nat) (a0z : Bool) (a0 : List Int) (a1 : Int) : laws_heldByteS.b (fun r => (ret r).map e) (fun x0z x0 x1 x5 => (j0 x0z x0 x1 x5).map e) k a0z a0 a1 = (laws_heldByteS.b ret j0 k a0z a0 a1).map e := by
  unfold laws_heldByteS.b
  repeat' first | with_reducible refine nat_cond ?_ ?_ | with_reducible refine nat_bind fun _ => ?_ | rfl
theorem laws_heldByteS.l0b_nat {R R' : Type} (e : R → R') (ret : Int → Option R) (j0 : Bool → (List Int) → Int → Int → Option R) (k : Nat) (x0z : Bool) (x0 : List Int) (x1 : Int) (x5 : Int) : laws_heldByteS.l0b (fun r => (ret r).map e) (fun x0z x0 x1 x5 => (j0 x0z x0 x1 x5).map e) k x0z x0 x1 x5 = (laws_heldByteS.l0b ret j0 k x0z x0 x1 x5).map e := by
  unfold laws_heldByteS.l0b
  repeat' first | with_reducible refine nat_cond ?_ ?_ | with_reducible refine nat_bind fun _ => ?_ | rfl
theorem laws_heldByteS.rounds_eq (a0z : Bool) (a0 : List Int) (a1 : Int) : ∀ k, (∀ (x0z : Bool) (x0 : List Int) (x1 : Int) (x5 : Int), rounds Try.prog laws_heldByteS.Cs (finish Try.prog [] Try.f59 [.v (.nums 5 .u8 a0z a0), .v (.int .i64 a1)]) 100000 k laws_heldByteS.K0 (laws_heldByteS.N0 x0z x0 x1 x5) = (laws_heldByteS.l0 k x0z x0 x1 x5).map laws_heldByteS.enc)
  | 0 => fun _ _ _ _ => rfl
  | k + 1 => by
    have ih := laws_heldByteS.rounds_eq a0z a0 a1 k
    refine fun _ _ _ _ => ?_
    · refine (laws_heldByteS.s0 k _ a0z a0 a1 _ _ _ _).trans (Eq.trans ?_ (laws_heldByteS.l0b_nat laws_heldByteS.enc some (laws_heldByteS.l0 k) k _ _ _ _))
      simp only [ih, Option.map_some]
theorem laws_heldByteS.eq (k : Nat) (a0z : Bool) (a0 : List Int) (a1 : Int) : answer Try.prog laws_heldByteS.Cs 100000 laws_heldByteS.cuts [] Try.f59 (k + 1) [.v (.nums 5 .u8 a0z a0), .v (.int .i64 a1)] = (laws_heldByteS.f (k + 1) a0z a0 a1).map laws_heldByteS.enc := by
  have ih := laws_heldByteS.rounds_eq a0z a0 a1 k
  refine (laws_heldByteS.s k a0z a0 a1).trans (Eq.trans ?_ (laws_heldByteS.b_nat laws_heldByteS.enc some (laws_heldByteS.l0 k) k a0z a0 a1))
  simp only [ih, Option.map_some]
theorem laws_heldByteS.sound (k : Nat) : SoundF Try.prog 59 (fun a => (laws_heldByteS.ans k a).val) := by
  refine sound_plain (fun args res h => ?_) (fun t n => rfl)
  unfold laws_heldByteS.ans at h
  dsimp only at h
  split at h
  · cases k with
    | zero => cases h
    | succ k =>
      unfold Ans.val at h
      rw [← laws_heldByteS.eq] at h
      exact answer_sound mixed Try.func59 _ _ _ (k + 1) (fun j _ => tab_sound (tab_nil)) _ _ h
  · exact (Ans.no_val h).elim

/-! loop.example/g00790/laws.FnExactLeast -/
def laws_FnExactLeast.b {R : Type} (ret : Bool → Option R) (k : Nat) (a0_0z : Bool) (a0_0 : List T) : Option R :=
  (laws_szTable.f k a0_0z a0_0 1048576).bind fun t0 => cond (decide (t0 < 0)) (ret true) ((laws_toTable.f k a0_0z a0_0).bind fun t1 => (spec_Least.f k t1.1 t1.2).bind fun t2 => (laws_toTable.f k a0_0z a0_0).bind fun t3 => (impl_Least.f k t3.1 t3.2).bind fun t4 => (laws_eqByteS.f k t4.1 t4.2 t2.1 t2.2).bind fun t5 => cond (!t5) (ret false) ((laws_toTable.f k a0_0z a0_0).bind fun t6 => (laws_eqTable.f k t3.1 t3.2 t6.1 t6.2).bind fun t7 => cond (!t7) (ret false) ((laws_markTable.f k t3.1 t3.2 1).bind fun t8 => cond (decide (t8.1 < 0)) (ret false) ((laws_eqByteS.f k t4.1 t4.2 t2.1 t2.2).bind fun t9 => cond (!t9) (ret false) ((laws_markByteS.f k t4.1 t4.2 1).bind fun t10 => (laws_heldByteS.f k t10.2.1 t10.2.2 1).bind fun t11 => cond (decide (t11 < 0)) (ret false) (cond (!(decide (t11 = t10.1))) (ret false) ((laws_toTable.f k a0_0z a0_0).bind fun t12 => (impl_Least.f k t12.1 t12.2).bind fun t13 => (laws_eqByteS.f k t13.1 t13.2 t2.1 t2.2).bind fun t14 => cond (!t14) (ret false) ((laws_heldByteS.f k t10.2.1 t10.2.2 1).bind fun t15 => cond (decide (t15 < 0)) (ret false) (cond (!(decide (t15 = t10.1))) (ret false) (ret true))))))))))
def laws_FnExactLeast.f : Nat → Bool → (List T) → Option Bool
  | 0, _, _ => none
  | k + 1, a0_0z, a0_0 => laws_FnExactLeast.b some k a0_0z a0_0
def laws_FnExactLeast.enc (r : Bool) : Res := ⟨[.vals false [((.bool r), true)]], []⟩
def laws_FnExactLeast.ans (k : Nat) : List Arg → Ans
  | [.v (.agg [(.sl 187 a0_0z a0_0)])] => ⟨laws_FnExactLeast.f k a0_0z a0_0, laws_FnExactLeast.enc⟩
  | _ => Ans.no
def laws_FnExactLeast.Cs (k : Nat) : CallSem := tab [(30, laws_szTable.ans k), (33, laws_toTable.ans k), (57, spec_Least.ans k), (58, impl_Least.ans k), (53, laws_eqByteS.ans k), (36, laws_eqTable.ans k), (46, laws_markTable.ans k), (54, laws_markByteS.ans k), (59, laws_heldByteS.ans k)]
def laws_FnExactLeast.cuts : List (Nat × Keep) := []
theorem laws_FnExactLeast.s (k : Nat) (a0_0z : Bool) (a0_0 : List T) : answer Try.prog laws_FnExactLeast.Cs 100000 laws_FnExactLeast.cuts [] Try.f10 (k + 1) [.v (.agg [(.sl 187 a0_0z a0_0)])] = laws_FnExactLeast.b (fun r => some (laws_FnExactLeast.enc r)) k a0_0z a0_0 := by kernel_rfl
theorem laws_FnExactLeast.b_nat {R R' : Type} (e : R → R') (ret : Bool → Option R) (k : Nat) (a0_0z : Bool) (a0_0 : List T) : laws_FnExactLeast.b (fun r => (ret r).map e) k a0_0z a0_0 = (laws_FnExactLeast.b ret k a0_0z a0_0).map e := by
  unfold laws_FnExactLeast.b
  repeat' first | with_reducible refine nat_cond ?_ ?_ | with_reducible refine nat_bind fun _ => ?_ | rfl
theorem laws_FnExactLeast.eq (k : Nat) (a0_0z : Bool) (a0_0 : List T) : answer Try.prog laws_FnExactLeast.Cs 100000 laws_FnExactLeast.cuts [] Try.f10 (k + 1) [.v (.agg [(.sl 187 a0_0z a0_0)])] = (laws_FnExactLeast.f (k + 1) a0_0z a0_0).map laws_FnExactLeast.enc := by
  refine (laws_FnExactLeast.s k a0_0z a0_0).trans (Eq.trans ?_ (laws_FnExactLeast.b_nat laws_FnExactLeast.enc some k a0_0z a0_0))
  simp only [Option.map_some]
theorem laws_FnExactLeast.sound (k : Nat) : SoundF Try.prog 10 (fun a => (laws_FnExactLeast.ans k a).val) := by
  refine sound_plain (fun args res h => ?_) (fun t n => rfl)
  unfold laws_FnExactLeast.ans at h
  dsimp only at h
  split at h
  · cases k with
    | zero => cases h
    | succ k =>
      unfold Ans.val at h
      rw [← laws_FnExactLeast.eq] at h
      exact answer_sound mixed Try.func10 _ _ _ (k + 1) (fun j _ => tab_sound (tab_cons (laws_szTable.sound j) (tab_cons (laws_toTable.sound j) (tab_cons (spec_Least.sound j) (tab_cons (impl_Least.sound j) (tab_cons (laws_eqByteS.sound j) (tab_cons (laws_eqTable.sound j) (tab_cons (laws_markTable.sound j) (tab_cons (laws_markByteS.sound j) (tab_cons (laws_heldByteS.sound j) (tab_nil))))))))))) _ _ h
  · exact (Ans.no_val h).elim
end Go.Proofs.YtadnejogdohfkaaG
