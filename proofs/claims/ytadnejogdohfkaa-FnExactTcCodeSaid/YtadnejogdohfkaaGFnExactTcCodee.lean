/- What the functions compute, printed by a program of this repo; each is shown to be what the machine of values answers. No condition. -/
import Derived.Test.YtadnejogdohfkaaProg
import Derived.KernelRfl
import Derived.Test.YtadnejogdohfkaaGFnExactTcCoded
namespace Go.Proofs.YtadnejogdohfkaaG
open Go Go.Proofs.YtadnejogdohfkaaRv Go.Proofs
set_option linter.unusedVariables false
set_option linter.unusedSimpArgs false
/-! loop.example/g00790/impl.WeightOf -/
def impl_WeightOf.b {R : Type} (ret : Int → Option R) (j0 : Int → Bool → (List Int) → Int → Int → Bool → (List T) → Option R) (k : Nat) (a0_0z : Bool) (a0_0 : List T) (a1z : Bool) (a1 : List Int) : Option R :=
  (impl_TableOk.f k a0_0z a0_0).bind fun t0 => cond (!t0) (ret 0) ((impl_BitsOk.f k a1z a1 ((a0_0).length : Int)).bind fun t1 => cond (!t1) (ret 0) ((impl_BitsList.f k a1z a1).bind fun t2 => j0 0 t2.1 t2.2 ((t2.2).length : Int) 0 a0_0z a0_0))
def impl_WeightOf.l0b {R : Type} (ret : Int → Option R) (j0 : Int → Bool → (List Int) → Int → Int → Bool → (List T) → Option R) (k : Nat) (x5 : Int) (x20z : Bool) (x20 : List Int) (x21 : Int) (x22 : Int) (c2_0z : Bool) (c2_0 : List T) : Option R :=
  cond (decide (x22 < x21)) (cond (decide ((0 : Int) ≤ x22)) (cond (decide (x22 < ((x20).length : Int))) (cond (decide ((0 : Int) ≤ (rdI x20 x22))) (cond (decide ((rdI x20 x22) < ((c2_0).length : Int))) (j0 (RowKit.wrap64 (x5 + ((((c2_0).getD ((rdI x20 x22)).toNat .bad).cells.getD 0 .bad)).toInt)) x20z x20 x21 (RowKit.wrap64 (x22 + 1)) c2_0z c2_0) (none)) (none)) (none)) (none)) (ret x5)
def impl_WeightOf.l0 : Nat → Int → Bool → (List Int) → Int → Int → Bool → (List T) → Option Int
  | 0, _, _, _, _, _, _, _ => none
  | k + 1, x5, x20z, x20, x21, x22, c2_0z, c2_0 => impl_WeightOf.l0b some (impl_WeightOf.l0 k) k x5 x20z x20 x21 x22 c2_0z c2_0
def impl_WeightOf.f : Nat → Bool → (List T) → Bool → (List Int) → Option Int
  | 0, _, _, _, _ => none
  | k + 1, a0_0z, a0_0, a1z, a1 => impl_WeightOf.b some (impl_WeightOf.l0 k) k a0_0z a0_0 a1z a1
def impl_WeightOf.enc (r : Int) : Res := ⟨[.vals false [((.int .i64 r), true)]], []⟩
def impl_WeightOf.ans (k : Nat) : List Arg → Ans
  | [.v (.agg [(.sl 160 a0_0z a0_0)]), .v (.nums 5 .u8 a1z a1)] => ⟨impl_WeightOf.f k a0_0z a0_0 a1z a1, impl_WeightOf.enc⟩
  | _ => Ans.no
def impl_WeightOf.Cs (k : Nat) : CallSem := tab [(125, impl_TableOk.ans k), (139, impl_BitsOk.ans k), (140, impl_BitsList.ans k)]
def impl_WeightOf.cuts : List (Nat × Keep) := [(122, ⟨[(2, some []), (5, some []), (20, none), (21, some []), (22, some [])], [(2, [some []])]⟩)]
noncomputable def impl_WeightOf.K0 : List Fr := framesAt [true, true, true, false, true, false] (bodyOf Try.f174 impl_WeightOf.cuts) []
def impl_WeightOf.N0 (x5 : Int) (x20z : Bool) (x20 : List Int) (x21 : Int) (x22 : Int) (c2_0z : Bool) (c2_0 : List T) : St := stOf 36 36 2 [(2, .bp 2 0), (5, .val (V.s (.int .i64 x5))), (20, .val ⟨(.nums 3 .i64 x20z x20), [.l 20 0], true, some (.l 20 0)⟩), (21, .val (V.s (.int .i64 x21))), (22, .val (V.s (.int .i64 x22)))] [(2, .cells [⟨(.sl 160 c2_0z c2_0), [], false, none⟩])]
theorem impl_WeightOf.s (k : Nat) (a0_0z : Bool) (a0_0 : List T) (a1z : Bool) (a1 : List Int) : answer Try.prog impl_WeightOf.Cs 100000 impl_WeightOf.cuts [] Try.f174 (k + 1) [.v (.agg [(.sl 160 a0_0z a0_0)]), .v (.nums 5 .u8 a1z a1)] = impl_WeightOf.b (fun r => some (impl_WeightOf.enc r)) (fun x5 x20z x20 x21 x22 c2_0z c2_0 => rounds Try.prog impl_WeightOf.Cs (finish Try.prog [] Try.f174 [.v (.agg [(.sl 160 a0_0z a0_0)]), .v (.nums 5 .u8 a1z a1)]) 100000 k impl_WeightOf.K0 (impl_WeightOf.N0 x5 x20z x20 x21 x22 c2_0z c2_0)) k a0_0z a0_0 a1z a1 := by kernel_rfl
theorem impl_WeightOf.s0 (k : Nat) (G : List Fr → St → Option Res) (a0_0z : Bool) (a0_0 : List T) (a1z : Bool) (a1 : List Int) (yx5 : Int) (yx20z : Bool) (yx20 : List Int) (yx21 : Int) (yx22 : Int) (yc2_0z : Bool) (yc2_0 : List T) : resume Try.prog (impl_WeightOf.Cs k) G (finish Try.prog [] Try.f174 [.v (.agg [(.sl 160 a0_0z a0_0)]), .v (.nums 5 .u8 a1z a1)]) 100000 impl_WeightOf.K0 (impl_WeightOf.N0 yx5 yx20z yx20 yx21 yx22 yc2_0z yc2_0) = impl_WeightOf.l0b (fun r => some (impl_WeightOf.enc r)) (fun x5 x20z x20 x21 x22 c2_0z c2_0 => G impl_WeightOf.K0 (impl_WeightOf.N0 x5 x20z x20 x21 x22 c2_0z c2_0)) k yx5 yx20z yx20 yx21 yx22 yc2_0z yc2_0 := by kernel_rfl
theorem impl_WeightOf.b_nat {R R' : Type} (e : R → R') (ret : Int → Option R) (j0 : Int → Bool → (List Int) → Int → Int → Bool → (List T) → Option R) (k : Nat) (a0_0z : Bool) (a0_0 : List T) (a1z : Bool) (a1 : List Int) : impl_WeightOf.b (fun r => (ret r).map e) (fun x5 x20z x20 x21 x22 c2_0z c2_0 => (j0 x5 x20z x20 x21 x22 c2_0z c2_0).map e) k a0_0z a0_0 a1z a1 = (impl_WeightOf.b ret j0 k a0_0z a0_0 a1z a1).map e := by
  unfold impl_WeightOf.b
  repeat' first | with_reducible refine nat_cond ?_ ?_ | with_reducible refine nat_bind fun _ => ?_ | rfl
theorem impl_WeightOf.l0b_nat {R R' : Type} (e : R → R') (ret : Int → Option R) (j0 : Int → Bool → (List Int) → Int → Int → Bool → (List T) → Option R) (k : Nat) (x5 : Int) (x20z : Bool) (x20 : List Int) (x21 : Int) (x22 : Int) (c2_0z : Bool) (c2_0 : List T) : impl_WeightOf.l0b (fun r => (ret r).map e) (fun x5 x20z x20 x21 x22 c2_0z c2_0 => (j0 x5 x20z x20 x21 x22 c2_0z c2_0).map e) k x5 x20z x20 x21 x22 c2_0z c2_0 = (impl_WeightOf.l0b ret j0 k x5 x20z x20 x21 x22 c2_0z c2_0).map e := by
  unfold impl_WeightOf.l0b
  repeat' first | with_reducible refine nat_cond ?_ ?_ | with_reducible refine nat_bind fun _ => ?_ | rfl
theorem impl_WeightOf.rounds_eq (a0_0z : Bool) (a0_0 : List T) (a1z : Bool) (a1 : List Int) : ∀ k, (∀ (x5 : Int) (x20z : Bool) (x20 : List Int) (x21 : Int) (x22 : Int) (c2_0z : Bool) (c2_0 : List T), rounds Try.prog impl_WeightOf.Cs (finish Try.prog [] Try.f174 [.v (.agg [(.sl 160 a0_0z a0_0)]), .v (.nums 5 .u8 a1z a1)]) 100000 k impl_WeightOf.K0 (impl_WeightOf.N0 x5 x20z x20 x21 x22 c2_0z c2_0) = (impl_WeightOf.l0 k x5 x20z x20 x21 x22 c2_0z c2_0).map impl_WeightOf.enc)
  | 0 => fun _ _ _ _ _ _ _ => rfl
  | k + 1 => by
    have ih := impl_WeightOf.rounds_eq a0_0z a0_0 a1z a1 k
    refine fun _ _ _ _ _ _ _ => ?_
    · refine (impl_WeightOf.s0 k _ a0_0z a0_0 a1z a1 _ _ _ _ _ _ _).trans (Eq.trans ?_ (impl_WeightOf.l0b_nat impl_WeightOf.enc some (impl_WeightOf.l0 k) k _ _ _ _ _ _ _))
      simp only [ih, Option.map_some]
theorem impl_WeightOf.eq (k : Nat) (a0_0z : Bool) (a0_0 : List T) (a1z : Bool) (a1 : List Int) : answer Try.prog impl_WeightOf.Cs 100000 impl_WeightOf.cuts [] Try.f174 (k + 1) [.v (.agg [(.sl 160 a0_0z a0_0)]), .v (.nums 5 .u8 a1z a1)] = (impl_WeightOf.f (k + 1) a0_0z a0_0 a1z a1).map impl_WeightOf.enc := by
  have ih := impl_WeightOf.rounds_eq a0_0z a0_0 a1z a1 k
  refine (impl_WeightOf.s k a0_0z a0_0 a1z a1).trans (Eq.trans ?_ (impl_WeightOf.b_nat impl_WeightOf.enc some (impl_WeightOf.l0 k) k a0_0z a0_0 a1z a1))
  simp only [ih, Option.map_some]
theorem impl_WeightOf.sound (k : Nat) : SoundF Try.prog 174 (fun a => (impl_WeightOf.ans k a).val) := by
  refine sound_plain (fun args res h => ?_) (fun t n => rfl)
  unfold impl_WeightOf.ans at h
  dsimp only at h
  split at h
  · cases k with
    | zero => cases h
    | succ k =>
      unfold Ans.val at h
      rw [← impl_WeightOf.eq] at h
      exact answer_sound mixed Try.func174 _ _ _ (k + 1) (fun j _ => tab_sound (tab_cons (impl_TableOk.sound j) (tab_cons (impl_BitsOk.sound j) (tab_cons (impl_BitsList.sound j) (tab_nil))))) _ _ h
  · exact (Ans.no_val h).elim

/-! loop.example/g00790/impl.TotalOf -/
def impl_TotalOf.b {R : Type} (ret : Int → Option R) (j0 : Int → Bool → (List T) → Int → Int → Bool → (List T) → Option R) (k : Nat) (a0_0z : Bool) (a0_0 : List T) : Option R :=
  j0 0 a0_0z a0_0 ((a0_0).length : Int) 0 a0_0z a0_0
def impl_TotalOf.l0b {R : Type} (ret : Int → Option R) (j0 : Int → Bool → (List T) → Int → Int → Bool → (List T) → Option R) (k : Nat) (x3 : Int) (x7z : Bool) (x7 : List T) (x8 : Int) (x9 : Int) (c1_0z : Bool) (c1_0 : List T) : Option R :=
  cond (decide (x9 < x8)) (cond (decide ((0 : Int) ≤ x9)) (cond (decide (x9 < ((x7).length : Int))) ((impl_TableOk.f k c1_0z c1_0).bind fun t0 => cond t0 (j0 (RowKit.wrap64 (x3 + ((((x7).getD (x9).toNat .bad).cells.getD 0 .bad)).toInt)) x7z x7 x8 (RowKit.wrap64 (x9 + 1)) c1_0z c1_0) (j0 x3 x7z x7 x8 (RowKit.wrap64 (x9 + 1)) c1_0z c1_0)) (none)) (none)) (ret x3)
def impl_TotalOf.l0 : Nat → Int → Bool → (List T) → Int → Int → Bool → (List T) → Option Int
  | 0, _, _, _, _, _, _, _ => none
  | k + 1, x3, x7z, x7, x8, x9, c1_0z, c1_0 => impl_TotalOf.l0b some (impl_TotalOf.l0 k) k x3 x7z x7 x8 x9 c1_0z c1_0
def impl_TotalOf.f : Nat → Bool → (List T) → Option Int
  | 0, _, _ => none
  | k + 1, a0_0z, a0_0 => impl_TotalOf.b some (impl_TotalOf.l0 k) k a0_0z a0_0
def impl_TotalOf.enc (r : Int) : Res := ⟨[.vals false [((.int .i64 r), true)]], []⟩
def impl_TotalOf.ans (k : Nat) : List Arg → Ans
  | [.v (.agg [(.sl 160 a0_0z a0_0)])] => ⟨impl_TotalOf.f k a0_0z a0_0, impl_TotalOf.enc⟩
  | _ => Ans.no
def impl_TotalOf.Cs (k : Nat) : CallSem := tab [(125, impl_TableOk.ans k)]
def impl_TotalOf.cuts : List (Nat × Keep) := [(58, ⟨[(1, some []), (3, some []), (7, some []), (8, some []), (9, some [])], [(1, [some []])]⟩)]
noncomputable def impl_TotalOf.K0 : List Fr := framesAt [true, true, false, true, false] (bodyOf Try.f175 impl_TotalOf.cuts) []
def impl_TotalOf.N0 (x3 : Int) (x7z : Bool) (x7 : List T) (x8 : Int) (x9 : Int) (c1_0z : Bool) (c1_0 : List T) : St := stOf 21 21 1 [(1, .bp 1 0), (3, .val (V.s (.int .i64 x3))), (7, .val ⟨(.sl 160 x7z x7), [], false, none⟩), (8, .val (V.s (.int .i64 x8))), (9, .val (V.s (.int .i64 x9)))] [(1, .cells [⟨(.sl 160 c1_0z c1_0), [], false, none⟩])]
theorem impl_TotalOf.s (k : Nat) (a0_0z : Bool) (a0_0 : List T) : answer Try.prog impl_TotalOf.Cs 100000 impl_TotalOf.cuts [] Try.f175 (k + 1) [.v (.agg [(.sl 160 a0_0z a0_0)])] = impl_TotalOf.b (fun r => some (impl_TotalOf.enc r)) (fun x3 x7z x7 x8 x9 c1_0z c1_0 => rounds Try.prog impl_TotalOf.Cs (finish Try.prog [] Try.f175 [.v (.agg [(.sl 160 a0_0z a0_0)])]) 100000 k impl_TotalOf.K0 (impl_TotalOf.N0 x3 x7z x7 x8 x9 c1_0z c1_0)) k a0_0z a0_0 := by kernel_rfl
theorem impl_TotalOf.s0 (k : Nat) (G : List Fr → St → Option Res) (a0_0z : Bool) (a0_0 : List T) (yx3 : Int) (yx7z : Bool) (yx7 : List T) (yx8 : Int) (yx9 : Int) (yc1_0z : Bool) (yc1_0 : List T) : resume Try.prog (impl_TotalOf.Cs k) G (finish Try.prog [] Try.f175 [.v (.agg [(.sl 160 a0_0z a0_0)])]) 100000 impl_TotalOf.K0 (impl_TotalOf.N0 yx3 yx7z yx7 yx8 yx9 yc1_0z yc1_0) = impl_TotalOf.l0b (fun r => some (impl_TotalOf.enc r)) (fun x3 x7z x7 x8 x9 c1_0z c1_0 => G impl_TotalOf.K0 (impl_TotalOf.N0 x3 x7z x7 x8 x9 c1_0z c1_0)) k yx3 yx7z yx7 yx8 yx9 yc1_0z yc1_0 := by kernel_rfl
theorem impl_TotalOf.b_nat {R R' : Type} (e : R → R') (ret : Int → Option R) (j0 : Int → Bool → (List T) → Int → Int → Bool → (List T) → Option R) (k : Nat) (a0_0z : Bool) (a0_0 : List T) : impl_TotalOf.b (fun r => (ret r).map e) (fun x3 x7z x7 x8 x9 c1_0z c1_0 => (j0 x3 x7z x7 x8 x9 c1_0z c1_0).map e) k a0_0z a0_0 = (impl_TotalOf.b ret j0 k a0_0z a0_0).map e := by
  unfold impl_TotalOf.b
  repeat' first | with_reducible refine nat_cond ?_ ?_ | with_reducible refine nat_bind fun _ => ?_ | rfl
theorem impl_TotalOf.l0b_nat {R R' : Type} (e : R → R') (ret : Int → Option R) (j0 : Int → Bool → (List T) → Int → Int → Bool → (List T) → Option R) (k : Nat) (x3 : Int) (x7z : Bool) (x7 : List T) (x8 : Int) (x9 : Int) (c1_0z : Bool) (c1_0 : List T) : impl_TotalOf.l0b (fun r => (ret r).map e) (fun x3 x7z x7 x8 x9 c1_0z c1_0 => (j0 x3 x7z x7 x8 x9 c1_0z c1_0).map e) k x3 x7z x7 x8 x9 c1_0z c1_0 = (impl_TotalOf.l0b ret j0 k x3 x7z x7 x8 x9 c1_0z c1_0).map e := by
  unfold impl_TotalOf.l0b
  repeat' first | with_reducible refine nat_cond ?_ ?_ | with_reducible refine nat_bind fun _ => ?_ | rfl
theorem impl_TotalOf.rounds_eq (a0_0z : Bool) (a0_0 : List T) : ∀ k, (∀ (x3 : Int) (x7z : Bool) (x7 : List T) (x8 : Int) (x9 : Int) (c1_0z : Bool) (c1_0 : List T), rounds Try.prog impl_TotalOf.Cs (finish Try.prog [] Try.f175 [.v (.agg [(.sl 160 a0_0z a0_0)])]) 100000 k impl_TotalOf.K0 (impl_TotalOf.N0 x3 x7z x7 x8 x9 c1_0z c1_0) = (impl_TotalOf.l0 k x3 x7z x7 x8 x9 c1_0z c1_0).map impl_TotalOf.enc)
  | 0 => fun _ _ _ _ _ _ _ => rfl
  | k + 1 => by
    have ih := impl_TotalOf.rounds_eq a0_0z a0_0 k
    refine fun _ _ _ _ _ _ _ => ?_
    · refine (impl_TotalOf.s0 k _ a0_0z a0_0 _ _ _ _ _ _ _).trans (Eq.trans ?_ (impl_TotalOf.l0b_nat impl_TotalOf.enc some (impl_TotalOf.l0 k) k _ _ _ _ _ _ _))
      simp only [ih, Option.map_some]
theorem impl_TotalOf.eq (k : Nat) (a0_0z : Bool) (a0_0 : List T) : answer Try.prog impl_TotalOf.Cs 100000 impl_TotalOf.cuts [] Try.f175 (k + 1) [.v (.agg [(.sl 160 a0_0z a0_0)])] = (impl_TotalOf.f (k + 1) a0_0z a0_0).map impl_TotalOf.enc := by
  have ih := impl_TotalOf.rounds_eq a0_0z a0_0 k
  refine (impl_TotalOf.s k a0_0z a0_0).trans (Eq.trans ?_ (impl_TotalOf.b_nat impl_TotalOf.enc some (impl_TotalOf.l0 k) k a0_0z a0_0))
  simp only [ih, Option.map_some]
theorem impl_TotalOf.sound (k : Nat) : SoundF Try.prog 175 (fun a => (impl_TotalOf.ans k a).val) := by
  refine sound_plain (fun args res h => ?_) (fun t n => rfl)
  unfold impl_TotalOf.ans at h
  dsimp only at h
  split at h
  · cases k with
    | zero => cases h
    | succ k =>
      unfold Ans.val at h
      rw [← impl_TotalOf.eq] at h
      exact answer_sound mixed Try.func175 _ _ _ (k + 1) (fun j _ => tab_sound (tab_cons (impl_TableOk.sound j) (tab_nil))) _ _ h
  · exact (Ans.no_val h).elim

/-! loop.example/g00790/impl.IsQuorum -/
def impl_IsQuorum.b {R : Type} (ret : Bool → Option R) (k : Nat) (a0_0z : Bool) (a0_0 : List T) (a1z : Bool) (a1 : List Int) : Option R :=
  (impl_TableOk.f k a0_0z a0_0).bind fun t0 => cond t0 ((impl_WeightOf.f k a0_0z a0_0 a1z a1).bind fun t1 => (impl_TotalOf.f k a0_0z a0_0).bind fun t2 => ret (decide ((RowKit.wrap64 ((3 : Int) * t1)) > (RowKit.wrap64 ((2 : Int) * t2))))) (ret false)
def impl_IsQuorum.f : Nat → Bool → (List T) → Bool → (List Int) → Option Bool
  | 0, _, _, _, _ => none
  | k + 1, a0_0z, a0_0, a1z, a1 => impl_IsQuorum.b some k a0_0z a0_0 a1z a1
def impl_IsQuorum.enc (r : Bool) : Res := ⟨[.vals false [((.bool r), true)]], []⟩
def impl_IsQuorum.ans (k : Nat) : List Arg → Ans
  | [.v (.agg [(.sl 160 a0_0z a0_0)]), .v (.nums 5 .u8 a1z a1)] => ⟨impl_IsQuorum.f k a0_0z a0_0 a1z a1, impl_IsQuorum.enc⟩
  | _ => Ans.no
def impl_IsQuorum.Cs (k : Nat) : CallSem := tab [(125, impl_TableOk.ans k), (174, impl_WeightOf.ans k), (175, impl_TotalOf.ans k)]
def impl_IsQuorum.cuts : List (Nat × Keep) := []
theorem impl_IsQuorum.s (k : Nat) (a0_0z : Bool) (a0_0 : List T) (a1z : Bool) (a1 : List Int) : answer Try.prog impl_IsQuorum.Cs 100000 impl_IsQuorum.cuts [] Try.f108 (k + 1) [.v (.agg [(.sl 160 a0_0z a0_0)]), .v (.nums 5 .u8 a1z a1)] = impl_IsQuorum.b (fun r => some (impl_IsQuorum.enc r)) k a0_0z a0_0 a1z a1 := by kernel_rfl
theorem impl_IsQuorum.b_nat {R R' : Type} (e : R → R') (ret : Bool → Option R) (k : Nat) (a0_0z : Bool) (a0_0 : List T) (a1z : Bool) (a1 : List Int) : impl_IsQuorum.b (fun r => (ret r).map e) k a0_0z a0_0 a1z a1 = (impl_IsQuorum.b ret k a0_0z a0_0 a1z a1).map e := by
  unfold impl_IsQuorum.b
  repeat' first | with_reducible refine nat_cond ?_ ?_ | with_reducible refine nat_bind fun _ => ?_ | rfl
theorem impl_IsQuorum.eq (k : Nat) (a0_0z : Bool) (a0_0 : List T) (a1z : Bool) (a1 : List Int) : answer Try.prog impl_IsQuorum.Cs 100000 impl_IsQuorum.cuts [] Try.f108 (k + 1) [.v (.agg [(.sl 160 a0_0z a0_0)]), .v (.nums 5 .u8 a1z a1)] = (impl_IsQuorum.f (k + 1) a0_0z a0_0 a1z a1).map impl_IsQuorum.enc := by
  refine (impl_IsQuorum.s k a0_0z a0_0 a1z a1).trans (Eq.trans ?_ (impl_IsQuorum.b_nat impl_IsQuorum.enc some k a0_0z a0_0 a1z a1))
  simp only [Option.map_some]
theorem impl_IsQuorum.sound (k : Nat) : SoundF Try.prog 108 (fun a => (impl_IsQuorum.ans k a).val) := by
  refine sound_plain (fun args res h => ?_) (fun t n => rfl)
  unfold impl_IsQuorum.ans at h
  dsimp only at h
  split at h
  · cases k with
    | zero => cases h
    | succ k =>
      unfold Ans.val at h
      rw [← impl_IsQuorum.eq] at h
      exact answer_sound mixed Try.func108 _ _ _ (k + 1) (fun j _ => tab_sound (tab_cons (impl_TableOk.sound j) (tab_cons (impl_WeightOf.sound j) (tab_cons (impl_TotalOf.sound j) (tab_nil))))) _ _ h
  · exact (Ans.no_val h).elim

/-! loop.example/g00790/impl.TcCode -/
def impl_TcCode.b {R : Type} (ret : Int → Option R) (j0 : Bool → (List T) → Int → Int → Int → Int → Int → Int → Int → Bool → (List T) → Int → Bool → (List T) → Option R) (k : Nat) (a0_0 : Int) (a0_1 : Int) (a0_2 : Int) (a0_3 : Int) (a0_4 : Int) (a1_0z : Bool) (a1_0 : List T) (a2_0 : Int) (a2_1z : Bool) (a2_1 : List T) : Option R :=
  (impl_belongs.f k a0_0 a0_1 a0_2 a0_3 a0_4 a1_0z a1_0).bind fun t0 => cond (!t0) (ret 1) ((impl_TcOk.f k a0_0 a0_1 a0_2 a0_3 a0_4 a2_0 a2_1z a2_1).bind fun t1 => cond (!t1) (ret 1) (j0 a2_1z a2_1 ((a2_1).length : Int) 0 a0_0 a0_1 a0_2 a0_3 a0_4 a1_0z a1_0 a2_0 a2_1z a2_1))
def impl_TcCode.l0b {R : Type} (ret : Int → Option R) (j0 : Bool → (List T) → Int → Int → Int → Int → Int → Int → Int → Bool → (List T) → Int → Bool → (List T) → Option R) (k : Nat) (x22z : Bool) (x22 : List T) (x23 : Int) (x24 : Int) (c3_0 : Int) (c3_1 : Int) (c3_2 : Int) (c3_3 : Int) (c3_4 : Int) (c4_0z : Bool) (c4_0 : List T) (c5_0 : Int) (c5_1z : Bool) (c5_1 : List T) : Option R :=
  cond (decide (x24 < x23)) (cond (decide ((0 : Int) ≤ x24)) (cond (decide (x24 < ((x22).length : Int))) ((impl_EntryGood.f k c4_0z c4_0 c5_0 (((((x22).getD (x24).toNat .bad).cells.getD 0 .bad)).toInt) (((((x22).getD (x24).toNat .bad).cells.getD 1 .bad)).toInt) (((((x22).getD (x24).toNat .bad).cells.getD 2 .bad)).isNil) (((((x22).getD (x24).toNat .bad).cells.getD 2 .bad)).toNums)).bind fun t0 => cond (!t0) (ret 2) (j0 x22z x22 x23 (RowKit.wrap64 (x24 + 1)) c3_0 c3_1 c3_2 c3_3 c3_4 c4_0z c4_0 c5_0 c5_1z c5_1)) (none)) (none)) ((impl_TcBits.f k c3_0 c3_1 c3_2 c3_3 c3_4 c5_0 c5_1z c5_1).bind fun t0 => (impl_IsQuorum.f k c4_0z c4_0 t0.1 t0.2.1).bind fun t1 => cond (!t1) (ret 3) (ret 0))
def impl_TcCode.l0 : Nat → Bool → (List T) → Int → Int → Int → Int → Int → Int → Int → Bool → (List T) → Int → Bool → (List T) → Option Int
  | 0, _, _, _, _, _, _, _, _, _, _, _, _, _, _ => none
  | k + 1, x22z, x22, x23, x24, c3_0, c3_1, c3_2, c3_3, c3_4, c4_0z, c4_0, c5_0, c5_1z, c5_1 => impl_TcCode.l0b some (impl_TcCode.l0 k) k x22z x22 x23 x24 c3_0 c3_1 c3_2 c3_3 c3_4 c4_0z c4_0 c5_0 c5_1z c5_1
def impl_TcCode.f : Nat → Int → Int → Int → Int → Int → Bool → (List T) → Int → Bool → (List T) → Option Int
  | 0, _, _, _, _, _, _, _, _, _, _ => none
  | k + 1, a0_0, a0_1, a0_2, a0_3, a0_4, a1_0z, a1_0, a2_0, a2_1z, a2_1 => impl_TcCode.b some (impl_TcCode.l0 k) k a0_0 a0_1 a0_2 a0_3 a0_4 a1_0z a1_0 a2_0 a2_1z a2_1
def impl_TcCode.enc (r : Int) : Res := ⟨[.vals false [((.int .i64 r), true)]], []⟩
def impl_TcCode.ans (k : Nat) : List Arg → Ans
  | [.v (.agg [(.int .i64 a0_0), (.int .i64 a0_1), (.int .i64 a0_2), (.int .i64 a0_3), (.int .i64 a0_4)]), .v (.agg [(.sl 160 a1_0z a1_0)]), .v (.agg [(.int .i64 a2_0), (.sl 85 a2_1z a2_1)])] => ⟨impl_TcCode.f k a0_0 a0_1 a0_2 a0_3 a0_4 a1_0z a1_0 a2_0 a2_1z a2_1, impl_TcCode.enc⟩
  | _ => Ans.no
def impl_TcCode.Cs (k : Nat) : CallSem := tab [(93, impl_belongs.ans k), (116, impl_TcOk.ans k), (117, impl_EntryGood.ans k), (118, impl_TcBits.ans k), (108, impl_IsQuorum.ans k)]
def impl_TcCode.cuts : List (Nat × Keep) := [(58, ⟨[(3, some []), (4, some []), (5, some []), (22, some []), (23, some []), (24, some [])], [(3, [some [], some [], some [], some [], some []]), (4, [some []]), (5, [some [], some []])]⟩)]
noncomputable def impl_TcCode.K0 : List Fr := framesAt [true, true, false, true, false] (bodyOf Try.f41 impl_TcCode.cuts) []
def impl_TcCode.N0 (x22z : Bool) (x22 : List T) (x23 : Int) (x24 : Int) (c3_0 : Int) (c3_1 : Int) (c3_2 : Int) (c3_3 : Int) (c3_4 : Int) (c4_0z : Bool) (c4_0 : List T) (c5_0 : Int) (c5_1z : Bool) (c5_1 : List T) : St := stOf 45 45 3 [(3, .bp 3 0), (4, .bp 4 0), (5, .bp 5 0), (22, .val ⟨(.sl 85 x22z x22), [], false, none⟩), (23, .val (V.s (.int .i64 x23))), (24, .val (V.s (.int .i64 x24)))] [(3, .cells [V.s (.int .i64 c3_0), V.s (.int .i64 c3_1), V.s (.int .i64 c3_2), V.s (.int .i64 c3_3), V.s (.int .i64 c3_4)]), (4, .cells [⟨(.sl 160 c4_0z c4_0), [], false, none⟩]), (5, .cells [V.s (.int .i64 c5_0), ⟨(.sl 85 c5_1z c5_1), [], false, none⟩])]
theorem impl_TcCode.s (k : Nat) (a0_0 : Int) (a0_1 : Int) (a0_2 : Int) (a0_3 : Int) (a0_4 : Int) (a1_0z : Bool) (a1_0 : List T) (a2_0 : Int) (a2_1z : Bool) (a2_1 : List T) : answer Try.prog impl_TcCode.Cs 100000 impl_TcCode.cuts [] Try.f41 (k + 1) [.v (.agg [(.int .i64 a0_0), (.int .i64 a0_1), (.int .i64 a0_2), (.int .i64 a0_3), (.int .i64 a0_4)]), .v (.agg [(.sl 160 a1_0z a1_0)]), .v (.agg [(.int .i64 a2_0), (.sl 85 a2_1z a2_1)])] = impl_TcCode.b (fun r => some (impl_TcCode.enc r)) (fun x22z x22 x23 x24 c3_0 c3_1 c3_2 c3_3 c3_4 c4_0z c4_0 c5_0 c5_1z c5_1 => rounds Try.prog impl_TcCode.Cs (finish Try.prog [] Try.f41 [.v (.agg [(.int .i64 a0_0), (.int .i64 a0_1), (.int .i64 a0_2), (.int .i64 a0_3), (.int .i64 a0_4)]), .v (.agg [(.sl 160 a1_0z a1_0)]), .v (.agg [(.int .i64 a2_0), (.sl 85 a2_1z a2_1)])]) 100000 k impl_TcCode.K0 (impl_TcCode.N0 x22z x22 x23 x24 c3_0 c3_1 c3_2 c3_3 c3_4 c4_0z c4_0 c5_0 c5_1z c5_1)) k a0_0 a0_1 a0_2 a0_3 a0_4 a1_0z a1_0 a2_0 a2_1z a2_1 := by kernel_rfl
theorem impl_TcCode.s0 (k : Nat) (G : List Fr → St → Option Res) (a0_0 : Int) (a0_1 : Int) (a0_2 : Int) (a0_3 : Int) (a0_4 : Int) (a1_0z : Bool) (a1_0 : List T) (a2_0 : Int) (a2_1z : Bool) (a2_1 : List T) (yx22z : Bool) (yx22 : List T) (yx23 : Int) (yx24 : Int) (yc3_0 : Int) (yc3_1 : Int) (yc3_2 : Int) (yc3_3 : Int) (yc3_4 : Int) (yc4_0z : Bool) (yc4_0 : List T) (yc5_0 : Int) (yc5_1z : Bool) (yc5_1 : List T) : resume Try.prog (impl_TcCode.Cs k) G (finish Try.prog [] Try.f41 [.v (.agg [(.int .i64 a0_0), (.int .i64 a0_1), (.int .i64 a0_2), (.int .i64 a0_3), (.int .i64 a0_4)]), .v (.agg [(.sl 160 a1_0z a1_0)]), .v (.agg [(.int .i64 a2_0), (.sl 85 a2_1z a2_1)])]) 100000 impl_TcCode.K0 (impl_TcCode.N0 yx22z yx22 yx23 yx24 yc3_0 yc3_1 yc3_2 yc3_3 yc3_4 yc4_0z yc4_0 yc5_0 yc5_1z yc5_1) = impl_TcCode.l0b (fun r => some (impl_TcCode.enc r)) (fun x22z x22 x23 x24 c3_0 c3_1 c3_2 c3_3 c3_4 c4_0z c4_0 c5_0 c5_1z c5_1 => G impl_TcCode.K0 (impl_TcCode.N0 x22z x22 x23 x24 c3_0 c3_1 c3_2 c3_3 c3_4 c4_0z c4_0 c5_0 c5_1z c5_1)) k yx22z yx22 yx23 yx24 yc3_0 yc3_1 yc3_2 yc3_3 yc3_4 yc4_0z yc4_0 yc5_0 yc5_1z yc5_1 := by kernel_rfl
theorem impl_TcCode.b_nat {R R' : Type} (e : R → R') (ret : Int → Option R) (j0 : Bool → (List T) → Int → Int → Int → Int → Int → Int → Int → Bool → (List T) → Int → Bool → (List T) → Option R) (k : Nat) (a0_0 : Int) (a0_1 : Int) (a0_2 : Int) (a0_3 : Int) (a0_4 : Int) (a1_0z : Bool) (a1_0 : List T) (a2_0 : Int) (a2_1z : Bool) (a2_1 : List T) : impl_TcCode.b (fun r => (ret r).map e) (fun x22z x22 x23 x24 c3_0 c3_1 c3_2 c3_3 c3_4 c4_0z c4_0 c5_0 c5_1z c5_1 => (j0 x22z x22 x23 x24 c3_0 c3_1 c3_2 c3_3 c3_4 c4_0z c4_0 c5_0 c5_1z c5_1).map e) k a0_0 a0_1 a0_2 a0_3 a0_4 a1_0z a1_0 a2_0 a2_1z a2_1 = (impl_TcCode.b ret j0 k a0_0 a0_1 a0_2 a0_3 a0_4 a1_0z a1_0 a2_0 a2_1z a2_1).map e := by
  unfold impl_TcCode.b
  repeat' first | with_reducible refine nat_cond ?_ ?_ | with_reducible refine nat_bind fun _ => ?_ | rfl
theorem impl_TcCode.l0b_nat {R R' : Type} (e : R → R') (ret : Int → Option R) (j0 : Bool → (List T) → Int → Int → Int → Int → Int → Int → Int → Bool → (List T) → Int → Bool → (List T) → Option R) (k : Nat) (x22z : Bool) (x22 : List T) (x23 : Int) (x24 : Int) (c3_0 : Int) (c3_1 : Int) (c3_2 : Int) (c3_3 : Int) (c3_4 : Int) (c4_0z : Bool) (c4_0 : List T) (c5_0 : Int) (c5_1z : Bool) (c5_1 : List T) : impl_TcCode.l0b (fun r => (ret r).map e) (fun x22z x22 x23 x24 c3_0 c3_1 c3_2 c3_3 c3_4 c4_0z c4_0 c5_0 c5_1z c5_1 => (j0 x22z x22 x23 x24 c3_0 c3_1 c3_2 c3_3 c3_4 c4_0z c4_0 c5_0 c5_1z c5_1).map e) k x22z x22 x23 x24 c3_0 c3_1 c3_2 c3_3 c3_4 c4_0z c4_0 c5_0 c5_1z c5_1 = (impl_TcCode.l0b ret j0 k x22z x22 x23 x24 c3_0 c3_1 c3_2 c3_3 c3_4 c4_0z c4_0 c5_0 c5_1z c5_1).map e := by
  unfold impl_TcCode.l0b
  repeat' first | with_reducible refine nat_cond ?_ ?_ | with_reducible refine nat_bind fun _ => ?_ | rfl
theorem impl_TcCode.rounds_eq (a0_0 : Int) (a0_1 : Int) (a0_2 : Int) (a0_3 : Int) (a0_4 : Int) (a1_0z : Bool) (a1_0 : List T) (a2_0 : Int) (a2_1z : Bool) (a2_1 : List T) : ∀ k, (∀ (x22z : Bool) (x22 : List T) (x23 : Int) (x24 : Int) (c3_0 : Int) (c3_1 : Int) (c3_2 : Int) (c3_3 : Int) (c3_4 : Int) (c4_0z : Bool) (c4_0 : List T) (c5_0 : Int) (c5_1z : Bool) (c5_1 : List T), rounds Try.prog impl_TcCode.Cs (finish Try.prog [] Try.f41 [.v (.agg [(.int .i64 a0_0), (.int .i64 a0_1), (.int .i64 a0_2), (.int .i64 a0_3), (.int .i64 a0_4)]), .v (.agg [(.sl 160 a1_0z a1_0)]), .v (.agg [(.int .i64 a2_0), (.sl 85 a2_1z a2_1)])]) 100000 k impl_TcCode.K0 (impl_TcCode.N0 x22z x22 x23 x24 c3_0 c3_1 c3_2 c3_3 c3_4 c4_0z c4_0 c5_0 c5_1z c5_1) = (impl_TcCode.l0 k x22z x22 x23 x24 c3_0 c3_1 c3_2 c3_3 c3_4 c4_0z c4_0 c5_0 c5_1z c5_1).map impl_TcCode.enc)
  | 0 => fun _ _ _ _ _ _ _ _ _ _ _ _ _ _ => rfl
  | k + 1 => by
    have ih := impl_TcCode.rounds_eq a0_0 a0_1 a0_2 a0_3 a0_4 a1_0z a1_0 a2_0 a2_1z a2_1 k
    refine fun _ _ _ _ _ _ _ _ _ _ _ _ _ _ => ?_
    · refine (impl_TcCode.s0 k _ a0_0 a0_1 a0_2 a0_3 a0_4 a1_0z a1_0 a2_0 a2_1z a2_1 _ _ _ _ _ _ _ _ _ _ _ _ _ _).trans (Eq.trans ?_ (impl_TcCode.l0b_nat impl_TcCode.enc some (impl_TcCode.l0 k) k _ _ _ _ _ _ _ _ _ _ _ _ _ _))
      simp only [ih, Option.map_some]
theorem impl_TcCode.eq (k : Nat) (a0_0 : Int) (a0_1 : Int) (a0_2 : Int) (a0_3 : Int) (a0_4 : Int) (a1_0z : Bool) (a1_0 : List T) (a2_0 : Int) (a2_1z : Bool) (a2_1 : List T) : answer Try.prog impl_TcCode.Cs 100000 impl_TcCode.cuts [] Try.f41 (k + 1) [.v (.agg [(.int .i64 a0_0), (.int .i64 a0_1), (.int .i64 a0_2), (.int .i64 a0_3), (.int .i64 a0_4)]), .v (.agg [(.sl 160 a1_0z a1_0)]), .v (.agg [(.int .i64 a2_0), (.sl 85 a2_1z a2_1)])] = (impl_TcCode.f (k + 1) a0_0 a0_1 a0_2 a0_3 a0_4 a1_0z a1_0 a2_0 a2_1z a2_1).map impl_TcCode.enc := by
  have ih := impl_TcCode.rounds_eq a0_0 a0_1 a0_2 a0_3 a0_4 a1_0z a1_0 a2_0 a2_1z a2_1 k
  refine (impl_TcCode.s k a0_0 a0_1 a0_2 a0_3 a0_4 a1_0z a1_0 a2_0 a2_1z a2_1).trans (Eq.trans ?_ (impl_TcCode.b_nat impl_TcCode.enc some (impl_TcCode.l0 k) k a0_0 a0_1 a0_2 a0_3 a0_4 a1_0z a1_0 a2_0 a2_1z a2_1))
  simp only [ih, Option.map_some]
theorem impl_TcCode.sound (k : Nat) : SoundF Try.prog 41 (fun a => (impl_TcCode.ans k a).val) := by
  refine sound_plain (fun args res h => ?_) (fun t n => rfl)
  unfold impl_TcCode.ans at h
  dsimp only at h
  split at h
  · cases k with
    | zero => cases h
    | succ k =>
      unfold Ans.val at h
      rw [← impl_TcCode.eq] at h
      exact answer_sound mixed Try.func41 _ _ _ (k + 1) (fun j _ => tab_sound (tab_cons (impl_belongs.sound j) (tab_cons (impl_TcOk.sound j) (tab_cons (impl_EntryGood.sound j) (tab_cons (impl_TcBits.sound j) (tab_cons (impl_IsQuorum.sound j) (tab_nil))))))) _ _ h
  · exact (Ans.no_val h).elim

/-! loop.example/g00790/laws.eqByteS -/
def laws_eqByteS.b {R : Type} (ret : Bool → Option R) (j0 : Bool → (List Int) → Bool → (List Int) → Int → Option R) (k : Nat) (a0z : Bool) (a0 : List Int) (a1z : Bool) (a1 : List Int) : Option R :=
  cond (!(decide (((a0).length : Int) = ((a1).length : Int)))) (ret false) (j0 a0z a0 a1z a1 0)
def laws_eqByteS.l0b {R : Type} (ret : Bool → Option R) (j0 : Bool → (List Int) → Bool → (List Int) → Int → Option R) (k : Nat) (x0z : Bool) (x0 : List Int) (x1z : Bool) (x1 : List Int) (x5 : Int) : Option R :=
  cond (decide (x5 < ((x0).length : Int))) (cond (decide ((0 : Int) ≤ x5)) (cond (decide (x5 < ((x0).length : Int))) (cond (decide ((0 : Int) ≤ x5)) (cond (decide (x5 < ((x1).length : Int))) (cond (!(decide ((rdI x0 x5) = (rdI x1 x5)))) (ret false) (j0 x0z x0 x1z x1 (RowKit.wrap64 (x5 + 1)))) (none)) (none)) (none)) (none)) (ret true)
def laws_eqByteS.l0 : Nat → Bool → (List Int) → Bool → (List Int) → Int → Option Bool
  | 0, _, _, _, _, _ => none
  | k + 1, x0z, x0, x1z, x1, x5 => laws_eqByteS.l0b some (laws_eqByteS.l0 k) k x0z x0 x1z x1 x5
def laws_eqByteS.f : Nat → Bool → (List Int) → Bool → (List Int) → Option Bool
  | 0, _, _, _, _ => none
  | k + 1, a0z, a0, a1z, a1 => laws_eqByteS.b some (laws_eqByteS.l0 k) k a0z a0 a1z a1
def laws_eqByteS.enc (r : Bool) : Res := ⟨[.vals false [((.bool r), true)]], []⟩
def laws_eqByteS.ans (k : Nat) : List Arg → Ans
  | [.v (.nums 5 .u8 a0z a0), .v (.nums 5 .u8 a1z a1)] => ⟨laws_eqByteS.f k a0z a0 a1z a1, laws_eqByteS.enc⟩
  | _ => Ans.no
def laws_eqByteS.Cs (k : Nat) : CallSem := tab []
def laws_eqByteS.cuts : List (Nat × Keep) := [(58, ⟨[(0, some []), (1, some []), (5, some [])], []⟩)]
noncomputable def laws_eqByteS.K0 : List Fr := framesAt [true, true, false, true, false] (bodyOf Try.f53 laws_eqByteS.cuts) []
def laws_eqByteS.N0 (x0z : Bool) (x0 : List Int) (x1z : Bool) (x1 : List Int) (x5 : Int) : St := stOf 26 26 2 [(0, .val ⟨(.nums 5 .u8 x0z x0), [], false, none⟩), (1, .val ⟨(.nums 5 .u8 x1z x1), [], false, none⟩), (5, .val (V.s (.int .i64 x5)))] []
theorem laws_eqByteS.s (k : Nat) (a0z : Bool) (a0 : List Int) (a1z : Bool) (a1 : List Int) : answer Try.prog laws_eqByteS.Cs 100000 laws_eqByteS.cuts [] Try.f53 (k + 1) [.v (.nums 5 .u8 a0z a0), .v (.nums 5 .u8 a1z a1)] = laws_eqByteS.b (fun r => some (laws_eqByteS.enc r)) (fun x0z x0 x1z x1 x5 => rounds Try.prog laws_eqByteS.Cs (finish Try.prog [] Try.f53 [.v (.nums 5 .u8 a0z a0), .v (.nums 5 .u8 a1z a1)]) 100000 k laws_eqByteS.K0 (laws_eqByteS.N0 x0z x0 x1z x1 x5)) k a0z a0 a1z a1 := by kernel_rfl
theorem laws_eqByteS.s0 (k : Nat) (G : List Fr → St → Option Res) (a0z : Bool) (a0 : List Int) (a1z : Bool) (a1 : List Int) (yx0z : Bool) (yx0 : List Int) (yx1z : Bool) (yx1 : List Int) (yx5 : Int) : resume Try.prog (laws_eqByteS.Cs k) G (finish Try.prog [] Try.f53 [.v (.nums 5 .u8 a0z a0), .v (.nums 5 .u8 a1z a1)]) 100000 laws_eqByteS.K0 (laws_eqByteS.N0 yx0z yx0 yx1z yx1 yx5) = laws_eqByteS.l0b (fun r => some (laws_eqByteS.enc r)) (fun x0z x0 x1z x1 x5 => G laws_eqByteS.K0 (laws_eqByteS.N0 x0z x0 x1z x1 x5)) k yx0z yx0 yx1z yx1 yx5 := by kernel_rfl
theorem laws_eqByteS.b_nat {R R' : Type} (e : R → R') (ret : Bool → Option R) (j0 : Bool → (List Int) → Bool → (List Int) → Int → Option R) (k : Nat) (a0z : Bool) (a0 : List Int) (a1z : Bool) (a1 : List Int) : laws_eqByteS.b (fun r => (ret r).map e) (fun x0z x0 x1z x1 x5 => (j0 x0z x0 x1z x1 x5).map e) k a0z a0 a1z a1 = (laws_eqByteS.b ret j0 k a0z a0 a1z a1).map e := by
  unfold laws_eqByteS.b
  repeat' first | with_reducible refine nat_cond ?_ ?_ | with_reducible refine nat_bind fun _ => ?_ | rfl
theorem laws_eqByteS.l0b_nat {R R' : Type} (e : R → R') (ret : Bool → Option R) (j0 : Bool → (List Int) → Bool → (List Int) → Int → Option R) (k : Nat) (x0z : Bool) (x0 : List Int) (x1z : Bool) (x1 : List Int) (x5 : Int) : laws_eqByteS.l0b (fun r => (ret r).map e) (fun x0z x0 x1z x1 x5 => (j0 x0z x0 x1z x1 x5).map e) k x0z x0 x1z x1 x5 = (laws_eqByteS.l0b ret j0 k x0z x0 x1z x1 x5).map e := by
  unfold laws_eqByteS.l0b
  repeat' first | with_reducible refine nat_cond ?_ ?_ | with_reducible refine nat_bind fun _ => ?_ | rfl
theorem laws_eqByteS.rounds_eq (a0z : Bool) (a0 : List Int) (a1z : Bool) (a1 : List Int) : ∀ k, (∀ (x0z : Bool) (x0 : List Int) (x1z : Bool) (x1 : List Int) (x5 : Int), rounds Try.prog laws_eqByteS.Cs (finish Try.prog [] Try.f53 [.v (.nums 5 .u8 a0z a0), .v (.nums 5 .u8 a1z a1)]) 100000 k laws_eqByteS.K0 (laws_eqByteS.N0 x0z x0 x1z x1 x5) = (laws_eqByteS.l0 k x0z x0 x1z x1 x5).map laws_eqByteS.enc)
  | 0 => fun _ _ _ _ _ => rfl
  | k + 1 => by
    have ih := laws_eqByteS.rounds_eq a0z a0 a1z a1 k
    refine fun _ _ _ _ _ => ?_
    · refine (laws_eqByteS.s0 k _ a0z a0 a1z a1 _ _ _ _ _).trans (Eq.trans ?_ (laws_eqByteS.l0b_nat laws_eqByteS.enc some (laws_eqByteS.l0 k) k _ _ _ _ _))
      simp only [ih, Option.map_some]
theorem laws_eqByteS.eq (k : Nat) (a0z : Bool) (a0 : List Int) (a1z : Bool) (a1 : List Int) : answer Try.prog laws_eqByteS.Cs 100000 laws_eqByteS.cuts [] Try.f53 (k + 1) [.v (.nums 5 .u8 a0z a0), .v (.nums 5 .u8 a1z a1)] = (laws_eqByteS.f (k + 1) a0z a0 a1z a1).map laws_eqByteS.enc := by
  have ih := laws_eqByteS.rounds_eq a0z a0 a1z a1 k
  refine (laws_eqByteS.s k a0z a0 a1z a1).trans (Eq.trans ?_ (laws_eqByteS.b_nat laws_eqByteS.enc some (laws_eqByteS.l0 k) k a0z a0 a1z a1))
  simp only [ih, Option.map_some]
theorem laws_eqByteS.sound (k : Nat) : SoundF Try.prog 53 (fun a => (laws_eqByteS.ans k a).val) := by
  refine sound_plain (fun args res h => ?_) (fun t n => rfl)
  unfold laws_eqByteS.ans at h
  dsimp only at h
  split at h
  · cases k with
    | zero => cases h
    | succ k =>
      unfold Ans.val at h
      rw [← laws_eqByteS.eq] at h
      exact answer_sound mixed Try.func53 _ _ _ (k + 1) (fun j _ => tab_sound (tab_nil)) _ _ h
  · exact (Ans.no_val h).elim

/-! loop.example/g00790/laws.eqRow -/
def laws_eqRow.b {R : Type} (ret : Bool → Option R) (k : Nat) (a0_0 : Int) (a0_1z : Bool) (a0_1 : List Int) (a1_0 : Int) (a1_1z : Bool) (a1_1 : List Int) : Option R :=
  cond (!(decide (a0_0 = a1_0))) (ret false) ((laws_eqByteS.f k a0_1z a0_1 a1_1z a1_1).bind fun t0 => cond (!t0) (ret false) (ret true))
def laws_eqRow.f : Nat → Int → Bool → (List Int) → Int → Bool → (List Int) → Option Bool
  | 0, _, _, _, _, _, _ => none
  | k + 1, a0_0, a0_1z, a0_1, a1_0, a1_1z, a1_1 => laws_eqRow.b some k a0_0 a0_1z a0_1 a1_0 a1_1z a1_1
def laws_eqRow.enc (r : Bool) : Res := ⟨[.vals false [((.bool r), true)]], []⟩
def laws_eqRow.ans (k : Nat) : List Arg → Ans
  | [.v (.agg [(.int .i64 a0_0), (.nums 5 .u8 a0_1z a0_1)]), .v (.agg [(.int .i64 a1_0), (.nums 5 .u8 a1_1z a1_1)])] => ⟨laws_eqRow.f k a0_0 a0_1z a0_1 a1_0 a1_1z a1_1, laws_eqRow.enc⟩
  | _ => Ans.no
def laws_eqRow.Cs (k : Nat) : CallSem := tab [(53, laws_eqByteS.ans k)]
def laws_eqRow.cuts : List (Nat × Keep) := []
theorem laws_eqRow.s (k : Nat) (a0_0 : Int) (a0_1z : Bool) (a0_1 : List Int) (a1_0 : Int) (a1_1z : Bool) (a1_1 : List Int) : answer Try.prog laws_eqRow.Cs 100000 laws_eqRow.cuts [] Try.f176 (k + 1) [.v (.agg [(.int .i64 a0_0), (.nums 5 .u8 a0_1z a0_1)]), .v (.agg [(.int .i64 a1_0), (.nums 5 .u8 a1_1z a1_1)])] = laws_eqRow.b (fun r => some (laws_eqRow.enc r)) k a0_0 a0_1z a0_1 a1_0 a1_1z a1_1 := by kernel_rfl
theorem laws_eqRow.b_nat {R R' : Type} (e : R → R') (ret : Bool → Option R) (k : Nat) (a0_0 : Int) (a0_1z : Bool) (a0_1 : List Int) (a1_0 : Int) (a1_1z : Bool) (a1_1 : List Int) : laws_eqRow.b (fun r => (ret r).map e) k a0_0 a0_1z a0_1 a1_0 a1_1z a1_1 = (laws_eqRow.b ret k a0_0 a0_1z a0_1 a1_0 a1_1z a1_1).map e := by
  unfold laws_eqRow.b
  repeat' first | with_reducible refine nat_cond ?_ ?_ | with_reducible refine nat_bind fun _ => ?_ | rfl
theorem laws_eqRow.eq (k : Nat) (a0_0 : Int) (a0_1z : Bool) (a0_1 : List Int) (a1_0 : Int) (a1_1z : Bool) (a1_1 : List Int) : answer Try.prog laws_eqRow.Cs 100000 laws_eqRow.cuts [] Try.f176 (k + 1) [.v (.agg [(.int .i64 a0_0), (.nums 5 .u8 a0_1z a0_1)]), .v (.agg [(.int .i64 a1_0), (.nums 5 .u8 a1_1z a1_1)])] = (laws_eqRow.f (k + 1) a0_0 a0_1z a0_1 a1_0 a1_1z a1_1).map laws_eqRow.enc := by
  refine (laws_eqRow.s k a0_0 a0_1z a0_1 a1_0 a1_1z a1_1).trans (Eq.trans ?_ (laws_eqRow.b_nat laws_eqRow.enc some k a0_0 a0_1z a0_1 a1_0 a1_1z a1_1))
  simp only [Option.map_some]
theorem laws_eqRow.sound (k : Nat) : SoundF Try.prog 176 (fun a => (laws_eqRow.ans k a).val) := by
  refine sound_plain (fun args res h => ?_) (fun t n => rfl)
  unfold laws_eqRow.ans at h
  dsimp only at h
  split at h
  · cases k with
    | zero => cases h
    | succ k =>
      unfold Ans.val at h
      rw [← laws_eqRow.eq] at h
      exact answer_sound mixed Try.func176 _ _ _ (k + 1) (fun j _ => tab_sound (tab_cons (laws_eqByteS.sound j) (tab_nil))) _ _ h
  · exact (Ans.no_val h).elim

/-! loop.example/g00790/laws.eqRowS -/
def laws_eqRowS.b {R : Type} (ret : Bool → Option R) (j0 : Bool → (List T) → Bool → (List T) → Int → Option R) (k : Nat) (a0z : Bool) (a0 : List T) (a1z : Bool) (a1 : List T) : Option R :=
  cond (!(decide (((a0).length : Int) = ((a1).length : Int)))) (ret false) (j0 a0z a0 a1z a1 0)
def laws_eqRowS.l0b {R : Type} (ret : Bool → Option R) (j0 : Bool → (List T) → Bool → (List T) → Int → Option R) (k : Nat) (x0z : Bool) (x0 : List T) (x1z : Bool) (x1 : List T) (x5 : Int) : Option R :=
  cond (decide (x5 < ((x0).length : Int))) (cond (decide ((0 : Int) ≤ x5)) (cond (decide (x5 < ((x0).length : Int))) (cond (decide ((0 : Int) ≤ x5)) (cond (decide (x5 < ((x1).length : Int))) ((laws_eqRow.f k (((((x0).getD (x5).toNat .bad).cells.getD 0 .bad)).toInt) (((((x0).getD (x5).toNat .bad).cells.getD 1 .bad)).isNil) (((((x0).getD (x5).toNat .bad).cells.getD 1 .bad)).toNums) (((((x1).getD (x5).toNat .bad).cells.getD 0 .bad)).toInt) (((((x1).getD (x5).toNat .bad).cells.getD 1 .bad)).isNil) (((((x1).getD (x5).toNat .bad).cells.getD 1 .bad)).toNums)).bind fun t0 => cond (!t0) (ret false) (j0 x0z x0 x1z x1 (RowKit.wrap64 (x5 + 1)))) (none)) (none)) (none)) (none)) (ret true)
def laws_eqRowS.l0 : Nat → Bool → (List T) → Bool → (List T) → Int → Option Bool
  | 0, _, _, _, _, _ => none
  | k + 1, x0z, x0, x1z, x1, x5 => laws_eqRowS.l0b some (laws_eqRowS.l0 k) k x0z x0 x1z x1 x5
def laws_eqRowS.f : Nat → Bool → (List T) → Bool → (List T) → Option Bool
  | 0, _, _, _, _ => none
  | k + 1, a0z, a0, a1z, a1 => laws_eqRowS.b some (laws_eqRowS.l0 k) k a0z a0 a1z a1
def laws_eqRowS.enc (r : Bool) : Res := ⟨[.vals false [((.bool r), true)]], []⟩
def laws_eqRowS.ans (k : Nat) : List Arg → Ans
  | [.v (.sl 160 a0z a0), .v (.sl 160 a1z a1)] => ⟨laws_eqRowS.f k a0z a0 a1z a1, laws_eqRowS.enc⟩
  | _ => Ans.no
def laws_eqRowS.Cs (k : Nat) : CallSem := tab [(176, laws_eqRow.ans k)]
def laws_eqRowS.cuts : List (Nat × Keep) := [(58, ⟨[(0, some []), (1, some []), (5, some [])], []⟩)]
noncomputable def laws_eqRowS.K0 : List Fr := framesAt [true, true, false, true, false] (bodyOf Try.f109 laws_eqRowS.cuts) []
def laws_eqRowS.N0 (x0z : Bool) (x0 : List T) (x1z : Bool) (x1 : List T) (x5 : Int) : St := stOf 27 27 2 [(0, .val ⟨(.sl 160 x0z x0), [], false, none⟩), (1, .val ⟨(.sl 160 x1z x1), [], false, none⟩), (5, .val (V.s (.int .i64 x5)))] []
theorem laws_eqRowS.s (k : Nat) (a0z : Bool) (a0 : List T) (a1z : Bool) (a1 : List T) : answer Try.prog laws_eqRowS.Cs 100000 laws_eqRowS.cuts [] Try.f109 (k + 1) [.v (.sl 160 a0z a0), .v (.sl 160 a1z a1)] = laws_eqRowS.b (fun r => some (laws_eqRowS.enc r)) (fun x0z x0 x1z x1 x5 => rounds Try.prog laws_eqRowS.Cs (finish Try.prog [] Try.f109 [.v (.sl 160 a0z a0), .v (.sl 160 a1z a1)]) 100000 k laws_eqRowS.K0 (laws_eqRowS.N0 x0z x0 x1z x1 x5)) k a0z a0 a1z a1 := by kernel_rfl
theorem laws_eqRowS.s0 (k : Nat) (G : List Fr → St → Option Res) (a0z : Bool) (a0 : List T) (a1z : Bool) (a1 : List T) (yx0z : Bool) (yx0 : List T) (yx1z : Bool) (yx1 : List T) (yx5 : Int) : resume Try.prog (laws_eqRowS.Cs k) G (finish Try.prog [] Try.f109 [.v (.sl 160 a0z a0), .v (.sl 160 a1z a1)]) 100000 laws_eqRowS.K0 (laws_eqRowS.N0 yx0z yx0 yx1z yx1 yx5) = laws_eqRowS.l0b (fun r => some (laws_eqRowS.enc r)) (fun x0z x0 x1z x1 x5 => G laws_eqRowS.K0 (laws_eqRowS.N0 x0z x0 x1z x1 x5)) k yx0z yx0 yx1z yx1 yx5 := by kernel_rfl
theorem laws_eqRowS.b_nat {R R' : Type} (e : R → R') (ret : Bool → Option R) (j0 : Bool → (List T) → Bool → (List T) → Int → Option R) (k : Nat) (a0z : Bool) (a0 : List T) (a1z : Bool) (a1 : List T) : laws_eqRowS.b (fun r => (ret r).map e) (fun x0z x0 x1z x1 x5 => (j0 x0z x0 x1z x1 x5).map e) k a0z a0 a1z a1 = (laws_eqRowS.b ret j0 k a0z a0 a1z a1).map e := by
  unfold laws_eqRowS.b
  repeat' first | with_reducible refine nat_cond ?_ ?_ | with_reducible refine nat_bind fun _ => ?_ | rfl
theorem laws_eqRowS.l0b_nat {R R' : Type} (e : R → R') (ret : Bool → Option R) (j0 : Bool → (List T) → Bool → (List T) → Int → Option R) (k : Nat) (x0z : Bool) (x0 : List T) (x1z : Bool) (x1 : List T) (x5 : Int) : laws_eqRowS.l0b (fun r => (ret r).map e) (fun x0z x0 x1z x1 x5 => (j0 x0z x0 x1z x1 x5).map e) k x0z x0 x1z x1 x5 = (laws_eqRowS.l0b ret j0 k x0z x0 x1z x1 x5).map e := by
  unfold laws_eqRowS.l0b
  repeat' first | with_reducible refine nat_cond ?_ ?_ | with_reducible refine nat_bind fun _ => ?_ | rfl
theorem laws_eqRowS.rounds_eq (a0z : Bool) (a0 : List T) (a1z : Bool) (a1 : List T) : ∀ k, (∀ (x0z : Bool) (x0 : List T) (x1z : Bool) (x1 : List T) (x5 : Int), rounds Try.prog laws_eqRowS.Cs (finish Try.prog [] Try.f109 [.v (.sl 160 a0z a0), .v (.sl 160 a1z a1)]) 100000 k laws_eqRowS.K0 (laws_eqRowS.N0 x0z x0 x1z x1 x5) = (laws_eqRowS.l0 k x0z x0 x1z x1 x5).map laws_eqRowS.enc)
  | 0 => fun _ _ _ _ _ => rfl
  | k + 1 => by
    have ih := laws_eqRowS.rounds_eq a0z a0 a1z a1 k
    refine fun _ _ _ _ _ => ?_
    · refine (laws_eqRowS.s0 k _ a0z a0 a1z a1 _ _ _ _ _).trans (Eq.trans ?_ (laws_eqRowS.l0b_nat laws_eqRowS.enc some (laws_eqRowS.l0 k) k _ _ _ _ _))
      simp only [ih, Option.map_some]
theorem laws_eqRowS.eq (k : Nat) (a0z : Bool) (a0 : List T) (a1z : Bool) (a1 : List T) : answer Try.prog laws_eqRowS.Cs 100000 laws_eqRowS.cuts [] Try.f109 (k + 1) [.v (.sl 160 a0z a0), .v (.sl 160 a1z a1)] = (laws_eqRowS.f (k + 1) a0z a0 a1z a1).map laws_eqRowS.enc := by
  have ih := laws_eqRowS.rounds_eq a0z a0 a1z a1 k
  refine (laws_eqRowS.s k a0z a0 a1z a1).trans (Eq.trans ?_ (laws_eqRowS.b_nat laws_eqRowS.enc some (laws_eqRowS.l0 k) k a0z a0 a1z a1))
  simp only [ih, Option.map_some]
theorem laws_eqRowS.sound (k : Nat) : SoundF Try.prog 109 (fun a => (laws_eqRowS.ans k a).val) := by
  refine sound_plain (fun args res h => ?_) (fun t n => rfl)
  unfold laws_eqRowS.ans at h
  dsimp only at h
  split at h
  · cases k with
    | zero => cases h
    | succ k =>
      unfold Ans.val at h
      rw [← laws_eqRowS.eq] at h
      exact answer_sound mixed Try.func109 _ _ _ (k + 1) (fun j _ => tab_sound (tab_cons (laws_eqRow.sound j) (tab_nil))) _ _ h
  · exact (Ans.no_val h).elim

/-! loop.example/g00790/laws.eqTable -/
def laws_eqTable.b {R : Type} (ret : Bool → Option R) (k : Nat) (a0_0z : Bool) (a0_0 : List T) (a1_0z : Bool) (a1_0 : List T) : Option R :=
  (laws_eqRowS.f k a0_0z a0_0 a1_0z a1_0).bind fun t0 => cond (!t0) (ret false) (ret true)
def laws_eqTable.f : Nat → Bool → (List T) → Bool → (List T) → Option Bool
  | 0, _, _, _, _ => none
  | k + 1, a0_0z, a0_0, a1_0z, a1_0 => laws_eqTable.b some k a0_0z a0_0 a1_0z a1_0
def laws_eqTable.enc (r : Bool) : Res := ⟨[.vals false [((.bool r), true)]], []⟩
def laws_eqTable.ans (k : Nat) : List Arg → Ans
  | [.v (.agg [(.sl 160 a0_0z a0_0)]), .v (.agg [(.sl 160 a1_0z a1_0)])] => ⟨laws_eqTable.f k a0_0z a0_0 a1_0z a1_0, laws_eqTable.enc⟩
  | _ => Ans.no
def laws_eqTable.Cs (k : Nat) : CallSem := tab [(109, laws_eqRowS.ans k)]
def laws_eqTable.cuts : List (Nat × Keep) := []
theorem laws_eqTable.s (k : Nat) (a0_0z : Bool) (a0_0 : List T) (a1_0z : Bool) (a1_0 : List T) : answer Try.prog laws_eqTable.Cs 100000 laws_eqTable.cuts [] Try.f36 (k + 1) [.v (.agg [(.sl 160 a0_0z a0_0)]), .v (.agg [(.sl 160 a1_0z a1_0)])] = laws_eqTable.b (fun r => some (laws_eqTable.enc r)) k a0_0z a0_0 a1_0z a1_0 := by kernel_rfl
theorem laws_eqTable.b_nat {R R' : Type} (e : R → R') (ret : Bool → Option R) (k : Nat) (a0_0z : Bool) (a0_0 : List T) (a1_0z : Bool) (a1_0 : List T) : laws_eqTable.b (fun r => (ret r).map e) k a0_0z a0_0 a1_0z a1_0 = (laws_eqTable.b ret k a0_0z a0_0 a1_0z a1_0).map e := by
  unfold laws_eqTable.b
  repeat' first | with_reducible refine nat_cond ?_ ?_ | with_reducible refine nat_bind fun _ => ?_ | rfl
theorem laws_eqTable.eq (k : Nat) (a0_0z : Bool) (a0_0 : List T) (a1_0z : Bool) (a1_0 : List T) : answer Try.prog laws_eqTable.Cs 100000 laws_eqTable.cuts [] Try.f36 (k + 1) [.v (.agg [(.sl 160 a0_0z a0_0)]), .v (.agg [(.sl 160 a1_0z a1_0)])] = (laws_eqTable.f (k + 1) a0_0z a0_0 a1_0z a1_0).map laws_eqTable.enc := by
  refine (laws_eqTable.s k a0_0z a0_0 a1_0z a1_0).trans (Eq.trans ?_ (laws_eqTable.b_nat laws_eqTable.enc some k a0_0z a0_0 a1_0z a1_0))
  simp only [Option.map_some]
theorem laws_eqTable.sound (k : Nat) : SoundF Try.prog 36 (fun a => (laws_eqTable.ans k a).val) := by
  refine sound_plain (fun args res h => ?_) (fun t n => rfl)
  unfold laws_eqTable.ans at h
  dsimp only at h
  split at h
  · cases k with
    | zero => cases h
    | succ k =>
      unfold Ans.val at h
      rw [← laws_eqTable.eq] at h
      exact answer_sound mixed Try.func36 _ _ _ (k + 1) (fun j _ => tab_sound (tab_cons (laws_eqRowS.sound j) (tab_nil))) _ _ h
  · exact (Ans.no_val h).elim

/-! loop.example/g00790/laws.eqEntry -/
def laws_eqEntry.b {R : Type} (ret : Bool → Option R) (k : Nat) (a0_0 : Int) (a0_1 : Int) (a0_2z : Bool) (a0_2 : List Int) (a1_0 : Int) (a1_1 : Int) (a1_2z : Bool) (a1_2 : List Int) : Option R :=
  cond (!(decide (a0_0 = a1_0))) (ret false) (cond (!(decide (a0_1 = a1_1))) (ret false) ((laws_eqByteS.f k a0_2z a0_2 a1_2z a1_2).bind fun t0 => cond (!t0) (ret false) (ret true)))
def laws_eqEntry.f : Nat → Int → Int → Bool → (List Int) → Int → Int → Bool → (List Int) → Option Bool
  | 0, _, _, _, _, _, _, _, _ => none
  | k + 1, a0_0, a0_1, a0_2z, a0_2, a1_0, a1_1, a1_2z, a1_2 => laws_eqEntry.b some k a0_0 a0_1 a0_2z a0_2 a1_0 a1_1 a1_2z a1_2
def laws_eqEntry.enc (r : Bool) : Res := ⟨[.vals false [((.bool r), true)]], []⟩
def laws_eqEntry.ans (k : Nat) : List Arg → Ans
  | [.v (.agg [(.int .i64 a0_0), (.int .i64 a0_1), (.nums 5 .u8 a0_2z a0_2)]), .v (.agg [(.int .i64 a1_0), (.int .i64 a1_1), (.nums 5 .u8 a1_2z a1_2)])] => ⟨laws_eqEntry.f k a0_0 a0_1 a0_2z a0_2 a1_0 a1_1 a1_2z a1_2, laws_eqEntry.enc⟩
  | _ => Ans.no
def laws_eqEntry.Cs (k : Nat) : CallSem := tab [(53, laws_eqByteS.ans k)]
def laws_eqEntry.cuts : List (Nat × Keep) := []
theorem laws_eqEntry.s (k : Nat) (a0_0 : Int) (a0_1 : Int) (a0_2z : Bool) (a0_2 : List Int) (a1_0 : Int) (a1_1 : Int) (a1_2z : Bool) (a1_2 : List Int) : answer Try.prog laws_eqEntry.Cs 100000 laws_eqEntry.cuts [] Try.f45 (k + 1) [.v (.agg [(.int .i64 a0_0), (.int .i64 a0_1), (.nums 5 .u8 a0_2z a0_2)]), .v (.agg [(.int .i64 a1_0), (.int .i64 a1_1), (.nums 5 .u8 a1_2z a1_2)])] = laws_eqEntry.b (fun r => some (laws_eqEntry.enc r)) k a0_0 a0_1 a0_2z a0_2 a1_0 a1_1 a1_2z a1_2 := by kernel_rfl
theorem laws_eqEntry.b_nat {R R' : Type} (e : R → R') (ret : Bool → Option R) (k : Nat) (a0_0 : Int) (a0_1 : Int) (a0_2z : Bool) (a0_2 : List Int) (a1_0 : Int) (a1_1 : Int) (a1_2z : Bool) (a1_2 : List Int) : laws_eqEntry.b (fun r => (ret r).map e) k a0_0 a0_1 a0_2z a0_2 a1_0 a1_1 a1_2z a1_2 = (laws_eqEntry.b ret k a0_0 a0_1 a0_2z a0_2 a1_0 a1_1 a1_2z a1_2).map e := by
  unfold laws_eqEntry.b
  repeat' first | with_reducible refine nat_cond ?_ ?_ | with_reducible refine nat_bind fun _ => ?_ | rfl
theorem laws_eqEntry.eq (k : Nat) (a0_0 : Int) (a0_1 : Int) (a0_2z : Bool) (a0_2 : List Int) (a1_0 : Int) (a1_1 : Int) (a1_2z : Bool) (a1_2 : List Int) : answer Try.prog laws_eqEntry.Cs 100000 laws_eqEntry.cuts [] Try.f45 (k + 1) [.v (.agg [(.int .i64 a0_0), (.int .i64 a0_1), (.nums 5 .u8 a0_2z a0_2)]), .v (.agg [(.int .i64 a1_0), (.int .i64 a1_1), (.nums 5 .u8 a1_2z a1_2)])] = (laws_eqEntry.f (k + 1) a0_0 a0_1 a0_2z a0_2 a1_0 a1_1 a1_2z a1_2).map laws_eqEntry.enc := by
  refine (laws_eqEntry.s k a0_0 a0_1 a0_2z a0_2 a1_0 a1_1 a1_2z a1_2).trans (Eq.trans ?_ (laws_eqEntry.b_nat laws_eqEntry.enc some k a0_0 a0_1 a0_2z a0_2 a1_0 a1_1 a1_2z a1_2))
  simp only [Option.map_some]
theorem laws_eqEntry.sound (k : Nat) : SoundF Try.prog 45 (fun a => (laws_eqEntry.ans k a).val) := by
  refine sound_plain (fun args res h => ?_) (fun t n => rfl)
  unfold laws_eqEntry.ans at h
  dsimp only at h
  split at h
  · cases k with
    | zero => cases h
    | succ k =>
      unfold Ans.val at h
      rw [← laws_eqEntry.eq] at h
      exact answer_sound mixed Try.func45 _ _ _ (k + 1) (fun j _ => tab_sound (tab_cons (laws_eqByteS.sound j) (tab_nil))) _ _ h
  · exact (Ans.no_val h).elim

/-! loop.example/g00790/laws.eqEntryS -/
def laws_eqEntryS.b {R : Type} (ret : Bool → Option R) (j0 : Bool → (List T) → Bool → (List T) → Int → Option R) (k : Nat) (a0z : Bool) (a0 : List T) (a1z : Bool) (a1 : List T) : Option R :=
  cond (!(decide (((a0).length : Int) = ((a1).length : Int)))) (ret false) (j0 a0z a0 a1z a1 0)
def laws_eqEntryS.l0b {R : Type} (ret : Bool → Option R) (j0 : Bool → (List T) → Bool → (List T) → Int → Option R) (k : Nat) (x0z : Bool) (x0 : List T) (x1z : Bool) (x1 : List T) (x5 : Int) : Option R :=
  cond (decide (x5 < ((x0).length : Int))) (cond (decide ((0 : Int) ≤ x5)) (cond (decide (x5 < ((x0).length : Int))) (cond (decide ((0 : Int) ≤ x5)) (cond (decide (x5 < ((x1).length : Int))) ((laws_eqEntry.f k (((((x0).getD (x5).toNat .bad).cells.getD 0 .bad)).toInt) (((((x0).getD (x5).toNat .bad).cells.getD 1 .bad)).toInt) (((((x0).getD (x5).toNat .bad).cells.getD 2 .bad)).isNil) (((((x0).getD (x5).toNat .bad).cells.getD 2 .bad)).toNums) (((((x1).getD (x5).toNat .bad).cells.getD 0 .bad)).toInt) (((((x1).getD (x5).toNat .bad).cells.getD 1 .bad)).toInt) (((((x1).getD (x5).toNat .bad).cells.getD 2 .bad)).isNil) (((((x1).getD (x5).toNat .bad).cells.getD 2 .bad)).toNums)).bind fun t0 => cond (!t0) (ret false) (j0 x0z x0 x1z x1 (RowKit.wrap64 (x5 + 1)))) (none)) (none)) (none)) (none)) (ret true)
def laws_eqEntryS.l0 : Nat → Bool → (List T) → Bool → (List T) → Int → Option Bool
  | 0, _, _, _, _, _ => none
  | k + 1, x0z, x0, x1z, x1, x5 => laws_eqEntryS.l0b some (laws_eqEntryS.l0 k) k x0z x0 x1z x1 x5
def laws_eqEntryS.f : Nat → Bool → (List T) → Bool → (List T) → Option Bool
  | 0, _, _, _, _ => none
  | k + 1, a0z, a0, a1z, a1 => laws_eqEntryS.b some (laws_eqEntryS.l0 k) k a0z a0 a1z a1
def laws_eqEntryS.enc (r : Bool) : Res := ⟨[.vals false [((.bool r), true)]], []⟩
def laws_eqEntryS.ans (k : Nat) : List Arg → Ans
  | [.v (.sl 85 a0z a0), .v (.sl 85 a1z a1)] => ⟨laws_eqEntryS.f k a0z a0 a1z a1, laws_eqEntryS.enc⟩
  | _ => Ans.no
def laws_eqEntryS.Cs (k : Nat) : CallSem := tab [(45, laws_eqEntry.ans k)]
def laws_eqEntryS.cuts : List (Nat × Keep) := [(58, ⟨[(0, some []), (1, some []), (5, some [])], []⟩)]
noncomputable def laws_eqEntryS.K0 : List Fr := framesAt [true, true, false, true, false] (bodyOf Try.f119 laws_eqEntryS.cuts) []
def laws_eqEntryS.N0 (x0z : Bool) (x0 : List T) (x1z : Bool) (x1 : List T) (x5 : Int) : St := stOf 27 27 2 [(0, .val ⟨(.sl 85 x0z x0), [], false, none⟩), (1, .val ⟨(.sl 85 x1z x1), [], false, none⟩), (5, .val (V.s (.int .i64 x5)))] []
theorem laws_eqEntryS.s (k : Nat) (a0z : Bool) (a0 : List T) (a1z : Bool) (a1 : List T) : answer Try.prog laws_eqEntryS.Cs 100000 laws_eqEntryS.cuts [] Try.f119 (k + 1) [.v (.sl 85 a0z a0), .v (.sl 85 a1z a1)] = laws_eqEntryS.b (fun r => some (laws_eqEntryS.enc r)) (fun x0z x0 x1z x1 x5 => rounds Try.prog laws_eqEntryS.Cs (finish Try.prog [] Try.f119 [.v (.sl 85 a0z a0), .v (.sl 85 a1z a1)]) 100000 k laws_eqEntryS.K0 (laws_eqEntryS.N0 x0z x0 x1z x1 x5)) k a0z a0 a1z a1 := by kernel_rfl
theorem laws_eqEntryS.s0 (k : Nat) (G : List Fr → St → Option Res) (a0z : Bool) (a0 : List T) (a1z : Bool) (a1 : List T) (yx0z : Bool) (yx0 : List T) (yx1z : Bool) (yx1 : List T) (yx5 : Int) : resume Try.prog (laws_eqEntryS.Cs k) G (finish Try.prog [] Try.f119 [.v (.sl 85 a0z a0), .v (.sl 85 a1z a1)]) 100000 laws_eqEntryS.K0 (laws_eqEntryS.N0 yx0z yx0 yx1z yx1 yx5) = laws_eqEntryS.l0b (fun r => some (laws_eqEntryS.enc r)) (fun x0z x0 x1z x1 x5 => G laws_eqEntryS.K0 (laws_eqEntryS.N0 x0z x0 x1z x1 x5)) k yx0z yx0 yx1z yx1 yx5 := by kernel_rfl
theorem laws_eqEntryS.b_nat {R R' : Type} (e : R → R') (ret : Bool → Option R) (j0 : Bool → (List T) → Bool → (List T) → Int → Option R) (k : Nat) (a0z : Bool) (a0 : List T) (a1z : Bool) (a1 : List T) : laws_eqEntryS.b (fun r => (ret r).map e) (fun x0z x0 x1z x1 x5 => (j0 x0z x0 x1z x1 x5).map e) k a0z a0 a1z a1 = (laws_eqEntryS.b ret j0 k a0z a0 a1z a1).map e := by
  unfold laws_eqEntryS.b
  repeat' first | with_reducible refine nat_cond ?_ ?_ | with_reducible refine nat_bind fun _ => ?_ | rfl
theorem laws_eqEntryS.l0b_nat {R R' : Type} (e : R → R') (ret : Bool → Option R) (j0 : Bool → (List T) → Bool → (List T) → Int → Option R) (k : Nat) (x0z : Bool) (x0 : List T) (x1z : Bool) (x1 : List T) (x5 : Int) : laws_eqEntryS.l0b (fun r => (ret r).map e) (fun x0z x0 x1z x1 x5 => (j0 x0z x0 x1z x1 x5).map e) k x0z x0 x1z x1 x5 = (laws_eqEntryS.l0b ret j0 k x0z x0 x1z x1 x5).map e := by
  unfold laws_eqEntryS.l0b
  repeat' first | with_reducible refine nat_cond ?_ ?_ | with_reducible refine nat_bind fun _ => ?_ | rfl
theorem laws_eqEntryS.rounds_eq (a0z : Bool) (a0 : List T) (a1z : Bool) (a1 : List T) : ∀ k, (∀ (x0z : Bool) (x0 : List T) (x1z : Bool) (x1 : List T) (x5 : Int), rounds Try.prog laws_eqEntryS.Cs (finish Try.prog [] Try.f119 [.v (.sl 85 a0z a0), .v (.sl 85 a1z a1)]) 100000 k laws_eqEntryS.K0 (laws_eqEntryS.N0 x0z x0 x1z x1 x5) = (laws_eqEntryS.l0 k x0z x0 x1z x1 x5).map laws_eqEntryS.enc)
  | 0 => fun _ _ _ _ _ => rfl
  | k + 1 => by
    have ih := laws_eqEntryS.rounds_eq a0z a0 a1z a1 k
    refine fun _ _ _ _ _ => ?_
    · refine (laws_eqEntryS.s0 k _ a0z a0 a1z a1 _ _ _ _ _).trans (Eq.trans ?_ (laws_eqEntryS.l0b_nat laws_eqEntryS.enc some (laws_eqEntryS.l0 k) k _ _ _ _ _))
      simp only [ih, Option.map_some]
theorem laws_eqEntryS.eq (k : Nat) (a0z : Bool) (a0 : List T) (a1z : Bool) (a1 : List T) : answer Try.prog laws_eqEntryS.Cs 100000 laws_eqEntryS.cuts [] Try.f119 (k + 1) [.v (.sl 85 a0z a0), .v (.sl 85 a1z a1)] = (laws_eqEntryS.f (k + 1) a0z a0 a1z a1).map laws_eqEntryS.enc := by
  have ih := laws_eqEntryS.rounds_eq a0z a0 a1z a1 k
  refine (laws_eqEntryS.s k a0z a0 a1z a1).trans (Eq.trans ?_ (laws_eqEntryS.b_nat laws_eqEntryS.enc some (laws_eqEntryS.l0 k) k a0z a0 a1z a1))
  simp only [ih, Option.map_some]
theorem laws_eqEntryS.sound (k : Nat) : SoundF Try.prog 119 (fun a => (laws_eqEntryS.ans k a).val) := by
  refine sound_plain (fun args res h => ?_) (fun t n => rfl)
  unfold laws_eqEntryS.ans at h
  dsimp only at h
  split at h
  · cases k with
    | zero => cases h
    | succ k =>
      unfold Ans.val at h
      rw [← laws_eqEntryS.eq] at h
      exact answer_sound mixed Try.func119 _ _ _ (k + 1) (fun j _ => tab_sound (tab_cons (laws_eqEntry.sound j) (tab_nil))) _ _ h
  · exact (Ans.no_val h).elim

/-! loop.example/g00790/laws.eqTc -/
def laws_eqTc.b {R : Type} (ret : Bool → Option R) (k : Nat) (a0_0 : Int) (a0_1z : Bool) (a0_1 : List T) (a1_0 : Int) (a1_1z : Bool) (a1_1 : List T) : Option R :=
  cond (!(decide (a0_0 = a1_0))) (ret false) ((laws_eqEntryS.f k a0_1z a0_1 a1_1z a1_1).bind fun t0 => cond (!t0) (ret false) (ret true))
def laws_eqTc.f : Nat → Int → Bool → (List T) → Int → Bool → (List T) → Option Bool
  | 0, _, _, _, _, _, _ => none
  | k + 1, a0_0, a0_1z, a0_1, a1_0, a1_1z, a1_1 => laws_eqTc.b some k a0_0 a0_1z a0_1 a1_0 a1_1z a1_1
def laws_eqTc.enc (r : Bool) : Res := ⟨[.vals false [((.bool r), true)]], []⟩
def laws_eqTc.ans (k : Nat) : List Arg → Ans
  | [.v (.agg [(.int .i64 a0_0), (.sl 85 a0_1z a0_1)]), .v (.agg [(.int .i64 a1_0), (.sl 85 a1_1z a1_1)])] => ⟨laws_eqTc.f k a0_0 a0_1z a0_1 a1_0 a1_1z a1_1, laws_eqTc.enc⟩
  | _ => Ans.no
def laws_eqTc.Cs (k : Nat) : CallSem := tab [(119, laws_eqEntryS.ans k)]
def laws_eqTc.cuts : List (Nat × Keep) := []
theorem laws_eqTc.s (k : Nat) (a0_0 : Int) (a0_1z : Bool) (a0_1 : List T) (a1_0 : Int) (a1_1z : Bool) (a1_1 : List T) : answer Try.prog laws_eqTc.Cs 100000 laws_eqTc.cuts [] Try.f42 (k + 1) [.v (.agg [(.int .i64 a0_0), (.sl 85 a0_1z a0_1)]), .v (.agg [(.int .i64 a1_0), (.sl 85 a1_1z a1_1)])] = laws_eqTc.b (fun r => some (laws_eqTc.enc r)) k a0_0 a0_1z a0_1 a1_0 a1_1z a1_1 := by kernel_rfl
theorem laws_eqTc.b_nat {R R' : Type} (e : R → R') (ret : Bool → Option R) (k : Nat) (a0_0 : Int) (a0_1z : Bool) (a0_1 : List T) (a1_0 : Int) (a1_1z : Bool) (a1_1 : List T) : laws_eqTc.b (fun r => (ret r).map e) k a0_0 a0_1z a0_1 a1_0 a1_1z a1_1 = (laws_eqTc.b ret k a0_0 a0_1z a0_1 a1_0 a1_1z a1_1).map e := by
  unfold laws_eqTc.b
  repeat' first | with_reducible refine nat_cond ?_ ?_ | with_reducible refine nat_bind fun _ => ?_ | rfl
theorem laws_eqTc.eq (k : Nat) (a0_0 : Int) (a0_1z : Bool) (a0_1 : List T) (a1_0 : Int) (a1_1z : Bool) (a1_1 : List T) : answer Try.prog laws_eqTc.Cs 100000 laws_eqTc.cuts [] Try.f42 (k + 1) [.v (.agg [(.int .i64 a0_0), (.sl 85 a0_1z a0_1)]), .v (.agg [(.int .i64 a1_0), (.sl 85 a1_1z a1_1)])] = (laws_eqTc.f (k + 1) a0_0 a0_1z a0_1 a1_0 a1_1z a1_1).map laws_eqTc.enc := by
  refine (laws_eqTc.s k a0_0 a0_1z a0_1 a1_0 a1_1z a1_1).trans (Eq.trans ?_ (laws_eqTc.b_nat laws_eqTc.enc some k a0_0 a0_1z a0_1 a1_0 a1_1z a1_1))
  simp only [Option.map_some]
theorem laws_eqTc.sound (k : Nat) : SoundF Try.prog 42 (fun a => (laws_eqTc.ans k a).val) := by
  refine sound_plain (fun args res h => ?_) (fun t n => rfl)
  unfold laws_eqTc.ans at h
  dsimp only at h
  split at h
  · cases k with
    | zero => cases h
    | succ k =>
      unfold Ans.val at h
      rw [← laws_eqTc.eq] at h
      exact answer_sound mixed Try.func42 _ _ _ (k + 1) (fun j _ => tab_sound (tab_cons (laws_eqEntryS.sound j) (tab_nil))) _ _ h
  · exact (Ans.no_val h).elim

/-! loop.example/g00790/laws.FnExactTcCode -/
def laws_FnExactTcCode.b {R : Type} (ret : Bool → Option R) (k : Nat) (a0_0 : Int) (a0_1 : Int) (a0_2 : Int) (a0_3 : Int) (a0_4 : Int) (a1_0z : Bool) (a1_0 : List T) (a2_0 : Int) (a2_1z : Bool) (a2_1 : List T) : Option R :=
  (laws_szTable.f k a1_0z a1_0 1048576).bind fun t0 => cond (decide (t0 < 0)) (ret true) ((laws_szTc.f k a2_0 a2_1z a2_1 t0).bind fun t1 => cond (decide (t1 < 0)) (ret true) ((laws_toLimits.f k a0_0 a0_1 a0_2 a0_3 a0_4).bind fun t2 => (laws_toTable.f k a1_0z a1_0).bind fun t3 => (laws_toTc.f k a2_0 a2_1z a2_1).bind fun t4 => (spec_TcCode.f k t2.1 t2.2.1 t2.2.2.1 t2.2.2.2.1 t2.2.2.2.2 t3.1 t3.2 t4.1 t4.2.1 t4.2.2).bind fun t5 => (laws_toTable.f k a1_0z a1_0).bind fun t6 => (laws_toTc.f k a2_0 a2_1z a2_1).bind fun t7 => (laws_toLimits.f k a0_0 a0_1 a0_2 a0_3 a0_4).bind fun t8 => (impl_TcCode.f k t8.1 t8.2.1 t8.2.2.1 t8.2.2.2.1 t8.2.2.2.2 t6.1 t6.2 t7.1 t7.2.1 t7.2.2).bind fun t9 => cond (!(decide (t9 = t5))) (ret false) ((laws_toTable.f k a1_0z a1_0).bind fun t10 => (laws_eqTable.f k t6.1 t6.2 t10.1 t10.2).bind fun t11 => cond (!t11) (ret false) ((laws_toTc.f k a2_0 a2_1z a2_1).bind fun t12 => (laws_eqTc.f k t7.1 t7.2.1 t7.2.2 t12.1 t12.2.1 t12.2.2).bind fun t13 => cond (!t13) (ret false) (ret true)))))
def laws_FnExactTcCode.f : Nat → Int → Int → Int → Int → Int → Bool → (List T) → Int → Bool → (List T) → Option Bool
  | 0, _, _, _, _, _, _, _, _, _, _ => none
  | k + 1, a0_0, a0_1, a0_2, a0_3, a0_4, a1_0z, a1_0, a2_0, a2_1z, a2_1 => laws_FnExactTcCode.b some k a0_0 a0_1 a0_2 a0_3 a0_4 a1_0z a1_0 a2_0 a2_1z a2_1
def laws_FnExactTcCode.enc (r : Bool) : Res := ⟨[.vals false [((.bool r), true)]], []⟩
def laws_FnExactTcCode.ans (k : Nat) : List Arg → Ans
  | [.v (.agg [(.int .i64 a0_0), (.int .i64 a0_1), (.int .i64 a0_2), (.int .i64 a0_3), (.int .i64 a0_4)]), .v (.agg [(.sl 187 a1_0z a1_0)]), .v (.agg [(.int .i64 a2_0), (.sl 195 a2_1z a2_1)])] => ⟨laws_FnExactTcCode.f k a0_0 a0_1 a0_2 a0_3 a0_4 a1_0z a1_0 a2_0 a2_1z a2_1, laws_FnExactTcCode.enc⟩
  | _ => Ans.no
def laws_FnExactTcCode.Cs (k : Nat) : CallSem := tab [(30, laws_szTable.ans k), (38, laws_szTc.ans k), (16, laws_toLimits.ans k), (33, laws_toTable.ans k), (40, laws_toTc.ans k), (39, spec_TcCode.ans k), (41, impl_TcCode.ans k), (36, laws_eqTable.ans k), (42, laws_eqTc.ans k)]
def laws_FnExactTcCode.cuts : List (Nat × Keep) := []
theorem laws_FnExactTcCode.s (k : Nat) (a0_0 : Int) (a0_1 : Int) (a0_2 : Int) (a0_3 : Int) (a0_4 : Int) (a1_0z : Bool) (a1_0 : List T) (a2_0 : Int) (a2_1z : Bool) (a2_1 : List T) : answer Try.prog laws_FnExactTcCode.Cs 100000 laws_FnExactTcCode.cuts [] Try.f7 (k + 1) [.v (.agg [(.int .i64 a0_0), (.int .i64 a0_1), (.int .i64 a0_2), (.int .i64 a0_3), (.int .i64 a0_4)]), .v (.agg [(.sl 187 a1_0z a1_0)]), .v (.agg [(.int .i64 a2_0), (.sl 195 a2_1z a2_1)])] = laws_FnExactTcCode.b (fun r => some (laws_FnExactTcCode.enc r)) k a0_0 a0_1 a0_2 a0_3 a0_4 a1_0z a1_0 a2_0 a2_1z a2_1 := by kernel_rfl
theorem laws_FnExactTcCode.b_nat {R R' : Type} (e : R → R') (ret : Bool → Option R) (k : Nat) (a0_0 : Int) (a0_1 : Int) (a0_2 : Int) (a0_3 : Int) (a0_4 : Int) (a1_0z : Bool) (a1_0 : List T) (a2_0 : Int) (a2_1z : Bool) (a2_1 : List T) : laws_FnExactTcCode.b (fun r => (ret r).map e) k a0_0 a0_1 a0_2 a0_3 a0_4 a1_0z a1_0 a2_0 a2_1z a2_1 = (laws_FnExactTcCode.b ret k a0_0 a0_1 a0_2 a0_3 a0_4 a1_0z a1_0 a2_0 a2_1z a2_1).map e := by
  unfold laws_FnExactTcCode.b
  repeat' first | with_reducible refine nat_cond ?_ ?_ | with_reducible refine nat_bind fun _ => ?_ | rfl
theorem laws_FnExactTcCode.eq (k : Nat) (a0_0 : Int) (a0_1 : Int) (a0_2 : Int) (a0_3 : Int) (a0_4 : Int) (a1_0z : Bool) (a1_0 : List T) (a2_0 : Int) (a2_1z : Bool) (a2_1 : List T) : answer Try.prog laws_FnExactTcCode.Cs 100000 laws_FnExactTcCode.cuts [] Try.f7 (k + 1) [.v (.agg [(.int .i64 a0_0), (.int .i64 a0_1), (.int .i64 a0_2), (.int .i64 a0_3), (.int .i64 a0_4)]), .v (.agg [(.sl 187 a1_0z a1_0)]), .v (.agg [(.int .i64 a2_0), (.sl 195 a2_1z a2_1)])] = (laws_FnExactTcCode.f (k + 1) a0_0 a0_1 a0_2 a0_3 a0_4 a1_0z a1_0 a2_0 a2_1z a2_1).map laws_FnExactTcCode.enc := by
  refine (laws_FnExactTcCode.s k a0_0 a0_1 a0_2 a0_3 a0_4 a1_0z a1_0 a2_0 a2_1z a2_1).trans (Eq.trans ?_ (laws_FnExactTcCode.b_nat laws_FnExactTcCode.enc some k a0_0 a0_1 a0_2 a0_3 a0_4 a1_0z a1_0 a2_0 a2_1z a2_1))
  simp only [Option.map_some]
theorem laws_FnExactTcCode.sound (k : Nat) : SoundF Try.prog 7 (fun a => (laws_FnExactTcCode.ans k a).val) := by
  refine sound_plain (fun args res h => ?_) (fun t n => rfl)
  unfold laws_FnExactTcCode.ans at h
  dsimp only at h
  split at h
  · cases k with
    | zero => cases h
    | succ k =>
      unfold Ans.val at h
      rw [← laws_FnExactTcCode.eq] at h
      exact answer_sound mixed Try.func7 _ _ _ (k + 1) (fun j _ => tab_sound (tab_cons (laws_szTable.sound j) (tab_cons (laws_szTc.sound j) (tab_cons (laws_toLimits.sound j) (tab_cons (laws_toTable.sound j) (tab_cons (laws_toTc.sound j) (tab_cons (spec_TcCode.sound j) (tab_cons (impl_TcCode.sound j) (tab_cons (laws_eqTable.sound j) (tab_cons (laws_eqTc.sound j) (tab_nil))))))))))) _ _ h
  · exact (Ans.no_val h).elim
end Go.Proofs.YtadnejogdohfkaaG
