/- What the functions compute, printed by a program of this repo; each is shown to be what the machine of values answers. No condition. -/
import Derived.Test.YtadnejogdohfkaaProg
import Derived.KernelRfl
import Derived.Test.YtadnejogdohfkaaGFnExactQcCodeb
namespace Go.Proofs.YtadnejogdohfkaaG
open Go Go.Proofs.YtadnejogdohfkaaRv Go.Proofs
set_option linter.unusedVariables false
set_option linter.unusedSimpArgs false
/-! loop.example/g00790/spec.TotalOf -/
def spec_TotalOf.b {R : Type} (ret : Int → Option R) (j0 : Int → Bool → (List T) → Int → Int → Option R) (k : Nat) (a0_0z : Bool) (a0_0 : List T) : Option R :=
  (spec_TableOk.f k a0_0z a0_0).bind fun t0 => cond (!t0) (ret 0) (j0 0 a0_0z a0_0 ((a0_0).length : Int) 0)
def spec_TotalOf.l0b {R : Type} (ret : Int → Option R) (j0 : Int → Bool → (List T) → Int → Int → Option R) (k : Nat) (x3 : Int) (x10z : Bool) (x10 : List T) (x11 : Int) (x12 : Int) : Option R :=
  cond (decide (x12 < x11)) (cond (decide ((0 : Int) ≤ x12)) (cond (decide (x12 < ((x10).length : Int))) (j0 (RowKit.wrap64 (x3 + ((((x10).getD (x12).toNat .bad).cells.getD 0 .bad)).toInt)) x10z x10 x11 (RowKit.wrap64 (x12 + 1))) (none)) (none)) (ret x3)
def spec_TotalOf.l0 : Nat → Int → Bool → (List T) → Int → Int → Option Int
  | 0, _, _, _, _, _ => none
  | k + 1, x3, x10z, x10, x11, x12 => spec_TotalOf.l0b some (spec_TotalOf.l0 k) k x3 x10z x10 x11 x12
def spec_TotalOf.f : Nat → Bool → (List T) → Option Int
  | 0, _, _ => none
  | k + 1, a0_0z, a0_0 => spec_TotalOf.b some (spec_TotalOf.l0 k) k a0_0z a0_0
def spec_TotalOf.enc (r : Int) : Res := ⟨[.vals false [((.int .i64 r), true)]], []⟩
def spec_TotalOf.ans (k : Nat) : List Arg → Ans
  | [.v (.agg [(.sl 160 a0_0z a0_0)])] => ⟨spec_TotalOf.f k a0_0z a0_0, spec_TotalOf.enc⟩
  | _ => Ans.no
def spec_TotalOf.Cs (k : Nat) : CallSem := tab [(121, spec_TableOk.ans k)]
def spec_TotalOf.cuts : List (Nat × Keep) := [(122, ⟨[(3, some []), (10, some []), (11, some []), (12, some [])], []⟩)]
noncomputable def spec_TotalOf.K0 : List Fr := framesAt [true, true, true, false, true, false] (bodyOf Try.f170 spec_TotalOf.cuts) []
def spec_TotalOf.N0 (x3 : Int) (x10z : Bool) (x10 : List T) (x11 : Int) (x12 : Int) : St := stOf 22 22 1 [(3, .val (V.s (.int .i64 x3))), (10, .val ⟨(.sl 160 x10z x10), [], false, none⟩), (11, .val (V.s (.int .i64 x11))), (12, .val (V.s (.int .i64 x12)))] []
theorem spec_TotalOf.s (k : Nat) (a0_0z : Bool) (a0_0 : List T) : answer Try.prog spec_TotalOf.Cs 100000 spec_TotalOf.cuts [] Try.f170 (k + 1) [.v (.agg [(.sl 160 a0_0z a0_0)])] = spec_TotalOf.b (fun r => some (spec_TotalOf.enc r)) (fun x3 x10z x10 x11 x12 => rounds Try.prog spec_TotalOf.Cs (finish Try.prog [] Try.f170 [.v (.agg [(.sl 160 a0_0z a0_0)])]) 100000 k spec_TotalOf.K0 (spec_TotalOf.N0 x3 x10z x10 x11 x12)) k a0_0z a0_0 := by kernel_rfl
theorem spec_TotalOf.s0 (k : Nat) (G : List Fr → St → Option Res) (a0_0z : Bool) (a0_0 : List T) (yx3 : Int) (yx10z : Bool) (yx10 : List T) (yx11 : Int) (yx12 : Int) : resume Try.prog (spec_TotalOf.Cs k) G (finish Try.prog [] Try.f170 [.v (.agg [(.sl 160 a0_0z a0_0)])]) 100000 spec_TotalOf.K0 (spec_TotalOf.N0 yx3 yx10z yx10 yx11 yx12) = spec_TotalOf.l0b (fun r => some (spec_TotalOf.enc r)) (fun x3 x10z x10 x11 x12 => G spec_TotalOf.K0 (spec_TotalOf.N0 x3 x10z x10 x11 x12)) k yx3 yx10z yx10 yx11 yx12 := by kernel_rfl
theorem spec_TotalOf.b_nat {R R' : Type} (e : R → R') (ret : Int → Option R) (j0 : Int → Bool → (List T) → Int → Int → Option R) (k : Nat) (a0_0z : Bool) (a0_0 : List T) : spec_TotalOf.b (fun r => (ret r).map e) (fun x3 x10z x10 x11 x12 => (j0 x3 x10z x10 x11 x12).map e) k a0_0z a0_0 = (spec_TotalOf.b ret j0 k a0_0z a0_0).map e := by
  unfold spec_TotalOf.b
  repeat' first | with_reducible refine nat_cond ?_ ?_ | with_reducible refine nat_bind fun _ => ?_ | rfl
theorem spec_TotalOf.l0b_nat {R R' : Type} (e : R → R') (ret : Int → Option R) (j0 : Int → Bool → (List T) → Int → Int → Option R) (k : Nat) (x3 : Int) (x10z : Bool) (x10 : List T) (x11 : Int) (x12 : Int) : spec_TotalOf.l0b (fun r => (ret r).map e) (fun x3 x10z x10 x11 x12 => (j0 x3 x10z x10 x11 x12).map e) k x3 x10z x10 x11 x12 = (spec_TotalOf.l0b ret j0 k x3 x10z x10 x11 x12).map e := by
  unfold spec_TotalOf.l0b
  repeat' first | with_reducible refine nat_cond ?_ ?_ | with_reducible refine nat_bind fun _ => ?_ | rfl
theorem spec_TotalOf.rounds_eq (a0_0z : Bool) (a0_0 : List T) : ∀ k, (∀ (x3 : Int) (x10z : Bool) (x10 : List T) (x11 : Int) (x12 : Int), rounds Try.prog spec_TotalOf.Cs (finish Try.prog [] Try.f170 [.v (.agg [(.sl 160 a0_0z a0_0)])]) 100000 k spec_TotalOf.K0 (spec_TotalOf.N0 x3 x10z x10 x11 x12) = (spec_TotalOf.l0 k x3 x10z x10 x11 x12).map spec_TotalOf.enc)
  | 0 => fun _ _ _ _ _ => rfl
  | k + 1 => by
    have ih := spec_TotalOf.rounds_eq a0_0z a0_0 k
    refine fun _ _ _ _ _ => ?_
    · refine (spec_TotalOf.s0 k _ a0_0z a0_0 _ _ _ _ _).trans (Eq.trans ?_ (spec_TotalOf.l0b_nat spec_TotalOf.enc some (spec_TotalOf.l0 k) k _ _ _ _ _))
      simp only [ih, Option.map_some]
theorem spec_TotalOf.eq (k : Nat) (a0_0z : Bool) (a0_0 : List T) : answer Try.prog spec_TotalOf.Cs 100000 spec_TotalOf.cuts [] Try.f170 (k + 1) [.v (.agg [(.sl 160 a0_0z a0_0)])] = (spec_TotalOf.f (k + 1) a0_0z a0_0).map spec_TotalOf.enc := by
  have ih := spec_TotalOf.rounds_eq a0_0z a0_0 k
  refine (spec_TotalOf.s k a0_0z a0_0).trans (Eq.trans ?_ (spec_TotalOf.b_nat spec_TotalOf.enc some (spec_TotalOf.l0 k) k a0_0z a0_0))
  simp only [ih, Option.map_some]
theorem spec_TotalOf.sound (k : Nat) : SoundF Try.prog 170 (fun a => (spec_TotalOf.ans k a).val) := by
  refine sound_plain (fun args res h => ?_) (fun t n => rfl)
  unfold spec_TotalOf.ans at h
  dsimp only at h
  split at h
  · cases k with
    | zero => cases h
    | succ k =>
      unfold Ans.val at h
      rw [← spec_TotalOf.eq] at h
      exact answer_sound mixed Try.func170 _ _ _ (k + 1) (fun j _ => tab_sound (tab_cons (spec_TableOk.sound j) (tab_nil))) _ _ h
  · exact (Ans.no_val h).elim

/-! loop.example/g00790/spec.IsQuorum -/
def spec_IsQuorum.b {R : Type} (ret : Bool → Option R) (k : Nat) (a0_0z : Bool) (a0_0 : List T) (a1z : Bool) (a1 : List Int) : Option R :=
  (spec_TableOk.f k a0_0z a0_0).bind fun t0 => cond t0 ((spec_WeightOf.f k a0_0z a0_0 a1z a1).bind fun t1 => (spec_TotalOf.f k a0_0z a0_0).bind fun t2 => ret (decide ((RowKit.wrap64 ((3 : Int) * t1)) > (RowKit.wrap64 ((2 : Int) * t2))))) (ret false)
def spec_IsQuorum.f : Nat → Bool → (List T) → Bool → (List Int) → Option Bool
  | 0, _, _, _, _ => none
  | k + 1, a0_0z, a0_0, a1z, a1 => spec_IsQuorum.b some k a0_0z a0_0 a1z a1
def spec_IsQuorum.enc (r : Bool) : Res := ⟨[.vals false [((.bool r), true)]], []⟩
def spec_IsQuorum.ans (k : Nat) : List Arg → Ans
  | [.v (.agg [(.sl 160 a0_0z a0_0)]), .v (.nums 5 .u8 a1z a1)] => ⟨spec_IsQuorum.f k a0_0z a0_0 a1z a1, spec_IsQuorum.enc⟩
  | _ => Ans.no
def spec_IsQuorum.Cs (k : Nat) : CallSem := tab [(121, spec_TableOk.ans k), (169, spec_WeightOf.ans k), (170, spec_TotalOf.ans k)]
def spec_IsQuorum.cuts : List (Nat × Keep) := []
theorem spec_IsQuorum.s (k : Nat) (a0_0z : Bool) (a0_0 : List T) (a1z : Bool) (a1 : List Int) : answer Try.prog spec_IsQuorum.Cs 100000 spec_IsQuorum.cuts [] Try.f102 (k + 1) [.v (.agg [(.sl 160 a0_0z a0_0)]), .v (.nums 5 .u8 a1z a1)] = spec_IsQuorum.b (fun r => some (spec_IsQuorum.enc r)) k a0_0z a0_0 a1z a1 := by kernel_rfl
theorem spec_IsQuorum.b_nat {R R' : Type} (e : R → R') (ret : Bool → Option R) (k : Nat) (a0_0z : Bool) (a0_0 : List T) (a1z : Bool) (a1 : List Int) : spec_IsQuorum.b (fun r => (ret r).map e) k a0_0z a0_0 a1z a1 = (spec_IsQuorum.b ret k a0_0z a0_0 a1z a1).map e := by
  unfold spec_IsQuorum.b
  repeat' first | with_reducible refine nat_cond ?_ ?_ | with_reducible refine nat_bind fun _ => ?_ | rfl
theorem spec_IsQuorum.eq (k : Nat) (a0_0z : Bool) (a0_0 : List T) (a1z : Bool) (a1 : List Int) : answer Try.prog spec_IsQuorum.Cs 100000 spec_IsQuorum.cuts [] Try.f102 (k + 1) [.v (.agg [(.sl 160 a0_0z a0_0)]), .v (.nums 5 .u8 a1z a1)] = (spec_IsQuorum.f (k + 1) a0_0z a0_0 a1z a1).map spec_IsQuorum.enc := by
  refine (spec_IsQuorum.s k a0_0z a0_0 a1z a1).trans (Eq.trans ?_ (spec_IsQuorum.b_nat spec_IsQuorum.enc some k a0_0z a0_0 a1z a1))
  simp only [Option.map_some]
theorem spec_IsQuorum.sound (k : Nat) : SoundF Try.prog 102 (fun a => (spec_IsQuorum.ans k a).val) := by
  refine sound_plain (fun args res h => ?_) (fun t n => rfl)
  unfold spec_IsQuorum.ans at h
  dsimp only at h
  split at h
  · cases k with
    | zero => cases h
    | succ k =>
      unfold Ans.val at h
      rw [← spec_IsQuorum.eq] at h
      exact answer_sound mixed Try.func102 _ _ _ (k + 1) (fun j _ => tab_sound (tab_cons (spec_TableOk.sound j) (tab_cons (spec_WeightOf.sound j) (tab_cons (spec_TotalOf.sound j) (tab_nil))))) _ _ h
  · exact (Ans.no_val h).elim

/-! loop.example/g00790/spec.QcCode -/
def spec_QcCode.b {R : Type} (ret : Int → Option R) (j0 : Bool → (List T) → Int → Int → Bool → (List T) → Int → Int → Bool → (List Int) → Bool → (List Int) → Bool → (List T) → Option R) (k : Nat) (a0_0 : Int) (a0_1 : Int) (a0_2 : Int) (a0_3 : Int) (a0_4 : Int) (a1_0z : Bool) (a1_0 : List T) (a2_0 : Int) (a2_1 : Int) (a2_2z : Bool) (a2_2 : List Int) (a2_3z : Bool) (a2_3 : List Int) (a2_4z : Bool) (a2_4 : List T) : Option R :=
  (spec_l23Goes.f k a0_0 a0_1 a0_2 a0_3 a0_4 a1_0z a1_0).bind fun t0 => cond (!t0) (ret 1) ((spec_QcOk.f k a0_0 a0_1 a0_2 a0_3 a0_4 a2_0 a2_1 a2_2z a2_2 a2_3z a2_3 a2_4z a2_4).bind fun t1 => cond (!t1) (ret 1) ((spec_QcVotes.f k a2_0 a2_1 a2_2z a2_2 a2_3z a2_3 a2_4z a2_4).bind fun t2 => j0 t2.1 t2.2 ((t2.2).length : Int) 0 a1_0z a1_0 a2_0 a2_1 a2_2z a2_2 a2_3z a2_3 a2_4z a2_4))
def spec_QcCode.l0b {R : Type} (ret : Int → Option R) (j0 : Bool → (List T) → Int → Int → Bool → (List T) → Int → Int → Bool → (List Int) → Bool → (List Int) → Bool → (List T) → Option R) (k : Nat) (x20z : Bool) (x20 : List T) (x21 : Int) (x22 : Int) (c4_0z : Bool) (c4_0 : List T) (c5_0 : Int) (c5_1 : Int) (c5_2z : Bool) (c5_2 : List Int) (c5_3z : Bool) (c5_3 : List Int) (c5_4z : Bool) (c5_4 : List T) : Option R :=
  cond (decide (x22 < x21)) (cond (decide ((0 : Int) ≤ x22)) (cond (decide (x22 < ((x20).length : Int))) ((spec_VoteGood.f k c4_0z c4_0 (((((x20).getD (x22).toNat .bad).cells.getD 0 .bad)).toInt) (((((x20).getD (x22).toNat .bad).cells.getD 1 .bad)).toInt) (((((x20).getD (x22).toNat .bad).cells.getD 2 .bad)).isNil) (((((x20).getD (x22).toNat .bad).cells.getD 2 .bad)).toNums) (((((x20).getD (x22).toNat .bad).cells.getD 3 .bad)).toInt) (((((x20).getD (x22).toNat .bad).cells.getD 4 .bad)).isNil) (((((x20).getD (x22).toNat .bad).cells.getD 4 .bad)).toNums)).bind fun t0 => cond (!t0) (ret 2) (j0 x20z x20 x21 (RowKit.wrap64 (x22 + 1)) c4_0z c4_0 c5_0 c5_1 c5_2z c5_2 c5_3z c5_3 c5_4z c5_4)) (none)) (none)) ((spec_IsQuorum.f k c4_0z c4_0 c5_3z c5_3).bind fun t0 => cond (!t0) (ret 3) (ret 0))
def spec_QcCode.l0 : Nat → Bool → (List T) → Int → Int → Bool → (List T) → Int → Int → Bool → (List Int) → Bool → (List Int) → Bool → (List T) → Option Int
  | 0, _, _, _, _, _, _, _, _, _, _, _, _, _, _ => none
  | k + 1, x20z, x20, x21, x22, c4_0z, c4_0, c5_0, c5_1, c5_2z, c5_2, c5_3z, c5_3, c5_4z, c5_4 => spec_QcCode.l0b some (spec_QcCode.l0 k) k x20z x20 x21 x22 c4_0z c4_0 c5_0 c5_1 c5_2z c5_2 c5_3z c5_3 c5_4z c5_4
def spec_QcCode.f : Nat → Int → Int → Int → Int → Int → Bool → (List T) → Int → Int → Bool → (List Int) → Bool → (List Int) → Bool → (List T) → Option Int
  | 0, _, _, _, _, _, _, _, _, _, _, _, _, _, _, _ => none
  | k + 1, a0_0, a0_1, a0_2, a0_3, a0_4, a1_0z, a1_0, a2_0, a2_1, a2_2z, a2_2, a2_3z, a2_3, a2_4z, a2_4 => spec_QcCode.b some (spec_QcCode.l0 k) k a0_0 a0_1 a0_2 a0_3 a0_4 a1_0z a1_0 a2_0 a2_1 a2_2z a2_2 a2_3z a2_3 a2_4z a2_4
def spec_QcCode.enc (r : Int) : Res := ⟨[.vals false [((.int .i64 r), true)]], []⟩
def spec_QcCode.ans (k : Nat) : List Arg → Ans
  | [.v (.agg [(.int .i64 a0_0), (.int .i64 a0_1), (.int .i64 a0_2), (.int .i64 a0_3), (.int .i64 a0_4)]), .v (.agg [(.sl 160 a1_0z a1_0)]), .v (.agg [(.int .i64 a2_0), (.int .i64 a2_1), (.nums 5 .u8 a2_2z a2_2), (.nums 5 .u8 a2_3z a2_3), (.sl 45 a2_4z a2_4)])] => ⟨spec_QcCode.f k a0_0 a0_1 a0_2 a0_3 a0_4 a1_0z a1_0 a2_0 a2_1 a2_2z a2_2 a2_3z a2_3 a2_4z a2_4, spec_QcCode.enc⟩
  | _ => Ans.no
def spec_QcCode.Cs (k : Nat) : CallSem := tab [(89, spec_l23Goes.ans k), (99, spec_QcOk.ans k), (100, spec_QcVotes.ans k), (101, spec_VoteGood.ans k), (102, spec_IsQuorum.ans k)]
def spec_QcCode.cuts : List (Nat × Keep) := [(58, ⟨[(4, some []), (5, some []), (20, none), (21, some []), (22, some [])], [(4, [some []]), (5, [some [], some [], some [], some [], some []])]⟩)]
noncomputable def spec_QcCode.K0 : List Fr := framesAt [true, true, false, true, false] (bodyOf Try.f32 spec_QcCode.cuts) []
def spec_QcCode.N0 (x20z : Bool) (x20 : List T) (x21 : Int) (x22 : Int) (c4_0z : Bool) (c4_0 : List T) (c5_0 : Int) (c5_1 : Int) (c5_2z : Bool) (c5_2 : List Int) (c5_3z : Bool) (c5_3 : List Int) (c5_4z : Bool) (c5_4 : List T) : St := stOf 36 36 3 [(4, .bp 4 0), (5, .bp 5 0), (20, .val ⟨(.sl 93 x20z x20), [.l 20 0], true, some (.l 20 0)⟩), (21, .val (V.s (.int .i64 x21))), (22, .val (V.s (.int .i64 x22)))] [(4, .cells [⟨(.sl 160 c4_0z c4_0), [], false, none⟩]), (5, .cells [V.s (.int .i64 c5_0), V.s (.int .i64 c5_1), ⟨(.nums 5 .u8 c5_2z c5_2), [], false, none⟩, ⟨(.nums 5 .u8 c5_3z c5_3), [], false, none⟩, ⟨(.sl 45 c5_4z c5_4), [], false, none⟩])]
theorem spec_QcCode.s (k : Nat) (a0_0 : Int) (a0_1 : Int) (a0_2 : Int) (a0_3 : Int) (a0_4 : Int) (a1_0z : Bool) (a1_0 : List T) (a2_0 : Int) (a2_1 : Int) (a2_2z : Bool) (a2_2 : List Int) (a2_3z : Bool) (a2_3 : List Int) (a2_4z : Bool) (a2_4 : List T) : answer Try.prog spec_QcCode.Cs 100000 spec_QcCode.cuts [] Try.f32 (k + 1) [.v (.agg [(.int .i64 a0_0), (.int .i64 a0_1), (.int .i64 a0_2), (.int .i64 a0_3), (.int .i64 a0_4)]), .v (.agg [(.sl 160 a1_0z a1_0)]), .v (.agg [(.int .i64 a2_0), (.int .i64 a2_1), (.nums 5 .u8 a2_2z a2_2), (.nums 5 .u8 a2_3z a2_3), (.sl 45 a2_4z a2_4)])] = spec_QcCode.b (fun r => some (spec_QcCode.enc r)) (fun x20z x20 x21 x22 c4_0z c4_0 c5_0 c5_1 c5_2z c5_2 c5_3z c5_3 c5_4z c5_4 => rounds Try.prog spec_QcCode.Cs (finish Try.prog [] Try.f32 [.v (.agg [(.int .i64 a0_0), (.int .i64 a0_1), (.int .i64 a0_2), (.int .i64 a0_3), (.int .i64 a0_4)]), .v (.agg [(.sl 160 a1_0z a1_0)]), .v (.agg [(.int .i64 a2_0), (.int .i64 a2_1), (.nums 5 .u8 a2_2z a2_2), (.nums 5 .u8 a2_3z a2_3), (.sl 45 a2_4z a2_4)])]) 100000 k spec_QcCode.K0 (spec_QcCode.N0 x20z x20 x21 x22 c4_0z c4_0 c5_0 c5_1 c5_2z c5_2 c5_3z c5_3 c5_4z c5_4)) k a0_0 a0_1 a0_2 a0_3 a0_4 a1_0z a1_0 a2_0 a2_1 a2_2z a2_2 a2_3z a2_3 a2_4z a2_4 := by kernel_rfl
theorem spec_QcCode.s0 (k : Nat) (G : List Fr → St → Option Res) (a0_0 : Int) (a0_1 : Int) (a0_2 : Int) (a0_3 : Int) (a0_4 : Int) (a1_0z : Bool) (a1_0 : List T) (a2_0 : Int) (a2_1 : Int) (a2_2z : Bool) (a2_2 : List Int) (a2_3z : Bool) (a2_3 : List Int) (a2_4z : Bool) (a2_4 : List T) (yx20z : Bool) (yx20 : List T) (yx21 : Int) (yx22 : Int) (yc4_0z : Bool) (yc4_0 : List T) (yc5_0 : Int) (yc5_1 : Int) (yc5_2z : Bool) (yc5_2 : List Int) (yc5_3z : Bool) (yc5_3 : List Int) (yc5_4z : Bool) (yc5_4 : List T) : resume Try.prog (spec_QcCode.Cs k) G (finish Try.prog [] Try.f32 [.v (.agg [(.int .i64 a0_0), (.int .i64 a0_1), (.int .i64 a0_2), (.int .i64 a0_3), (.int .i64 a0_4)]), .v (.agg [(.sl 160 a1_0z a1_0)]), .v (.agg [(.int .i64 a2_0), (.int .i64 a2_1), (.nums 5 .u8 a2_2z a2_2), (.nums 5 .u8 a2_3z a2_3), (.sl 45 a2_4z a2_4)])]) 100000 spec_QcCode.K0 (spec_QcCode.N0 yx20z yx20 yx21 yx22 yc4_0z yc4_0 yc5_0 yc5_1 yc5_2z yc5_2 yc5_3z yc5_3 yc5_4z yc5_4) = spec_QcCode.l0b (fun r => some (spec_QcCode.enc r)) (fun x20z x20 x21 x22 c4_0z c4_0 c5_0 c5_1 c5_2z c5_2 c5_3z c5_3 c5_4z c5_4 => G spec_QcCode.K0 (spec_QcCode.N0 x20z x20 x21 x22 c4_0z c4_0 c5_0 c5_1 c5_2z c5_2 c5_3z c5_3 c5_4z c5_4)) k yx20z yx20 yx21 yx22 yc4_0z yc4_0 yc5_0 yc5_1 yc5_2z yc5_2 yc5_3z yc5_3 yc5_4z yc5_4 := by kernel_rfl
theorem spec_QcCode.b_nat {R R' : Type} (e : R → R') (ret : Int → Option R) (j0 : Bool → (List T) → Int → Int → Bool → (List T) → Int → Int → Bool → (List Int) → Bool → (List Int) → Bool → (List T) → Option R) (k : Nat) (a0_0 : Int) (a0_1 : Int) (a0_2 : Int) (a0_3 : Int) (a0_4 : Int) (a1_0z : Bool) (a1_0 : List T) (a2_0 : Int) (a2_1 : Int) (a2_2z : Bool) (a2_2 : List Int) (a2_3z : Bool) (a2_3 : List Int) (a2_4z : Bool) (a2_4 : List T) : spec_QcCode.b (fun r => (ret r).map e) (fun x20z x20 x21 x22 c4_0z c4_0 c5_0 c5_1 c5_2z c5_2 c5_3z c5_3 c5_4z c5_4 => (j0 x20z x20 x21 x22 c4_0z c4_0 c5_0 c5_1 c5_2z c5_2 c5_3z c5_3 c5_4z c5_4).map e) k a0_0 a0_1 a0_2 a0_3 a0_4 a1_0z a1_0 a2_0 a2_1 a2_2z a2_2 a2_3z a2_3 a2_4z a2_4 = (spec_QcCode.b ret j0 k a0_0 a0_1 a0_2 a0_3 a0_4 a1_0z a1_0 a2_0 a2_1 a2_2z a2_2 a2_3z a2_3 a2_4z a2_4).map e := by
  unfold spec_QcCode.b
  repeat' first | with_reducible refine nat_cond ?_ ?_ | with_reducible refine nat_bind fun _ => ?_ | rfl
theorem spec_QcCode.l0b_nat {R R' : Type} (e : R → R') (ret : Int → Option R) (j0 : Bool → (List T) → Int → Int → Bool → (List T) → Int → Int → Bool → (List Int) → Bool → (List Int) → Bool → (List T) → Option R) (k : Nat) (x20z : Bool) (x20 : List T) (x21 : Int) (x22 : Int) (c4_0z : Bool) (c4_0 : List T) (c5_0 : Int) (c5_1 : Int) (c5_2z : Bool) (c5_2 : List Int) (c5_3z : Bool) (c5_3 : List Int) (c5_4z : Bool) (c5_4 : List T) : spec_QcCode.l0b (fun r => (ret r).map e) (fun x20z x20 x21 x22 c4_0z c4_0 c5_0 c5_1 c5_2z c5_2 c5_3z c5_3 c5_4z c5_4 => (j0 x20z x20 x21 x22 c4_0z c4_0 c5_0 c5_1 c5_2z c5_2 c5_3z c5_3 c5_4z c5_4).map e) k x20z x20 x21 x22 c4_0z c4_0 c5_0 c5_1 c5_2z c5_2 c5_3z c5_3 c5_4z c5_4 = (spec_QcCode.l0b ret j0 k x20z x20 x21 x22 c4_0z c4_0 c5_0 c5_1 c5_2z c5_2 c5_3z c5_3 c5_4z c5_4).map e := by
  unfold spec_QcCode.l0b
  repeat' first | with_reducible refine nat_cond ?_ ?_ | with_reducible refine nat_bind fun _ => ?_ | rfl
theorem spec_QcCode.rounds_eq (a0_0 : Int) (a0_1 : Int) (a0_2 : Int) (a0_3 : Int) (a0_4 : Int) (a1_0z : Bool) (a1_0 : List T) (a2_0 : Int) (a2_1 : Int) (a2_2z : Bool) (a2_2 : List Int) (a2_3z : Bool) (a2_3 : List Int) (a2_4z : Bool) (a2_4 : List T) : ∀ k, (∀ (x20z : Bool) (x20 : List T) (x21 : Int) (x22 : Int) (c4_0z : Bool) (c4_0 : List T) (c5_0 : Int) (c5_1 : Int) (c5_2z : Bool) (c5_2 : List Int) (c5_3z : Bool) (c5_3 : List Int) (c5_4z : Bool) (c5_4 : List T), rounds Try.prog spec_QcCode.Cs (finish Try.prog [] Try.f32 [.v (.agg [(.int .i64 a0_0), (.int .i64 a0_1), (.int .i64 a0_2), (.int .i64 a0_3), (.int .i64 a0_4)]), .v (.agg [(.sl 160 a1_0z a1_0)]), .v (.agg [(.int .i64 a2_0), (.int .i64 a2_1), (.nums 5 .u8 a2_2z a2_2), (.nums 5 .u8 a2_3z a2_3), (.sl 45 a2_4z a2_4)])]) 100000 k spec_QcCode.K0 (spec_QcCode.N0 x20z x20 x21 x22 c4_0z c4_0 c5_0 c5_1 c5_2z c5_2 c5_3z c5_3 c5_4z c5_4) = (spec_QcCode.l0 k x20z x20 x21 x22 c4_0z c4_0 c5_0 c5_1 c5_2z c5_2 c5_3z c5_3 c5_4z c5_4).map spec_QcCode.enc)
  | 0 => fun _ _ _ _ _ _ _ _ _ _ _ _ _ _ => rfl
  | k + 1 => by
    have ih := spec_QcCode.rounds_eq a0_0 a0_1 a0_2 a0_3 a0_4 a1_0z a1_0 a2_0 a2_1 a2_2z a2_2 a2_3z a2_3 a2_4z a2_4 k
    refine fun _ _ _ _ _ _ _ _ _ _ _ _ _ _ => ?_
    · refine (spec_QcCode.s0 k _ a0_0 a0_1 a0_2 a0_3 a0_4 a1_0z a1_0 a2_0 a2_1 a2_2z a2_2 a2_3z a2_3 a2_4z a2_4 _ _ _ _ _ _ _ _ _ _ _ _ _ _).trans (Eq.trans ?_ (spec_QcCode.l0b_nat spec_QcCode.enc some (spec_QcCode.l0 k) k _ _ _ _ _ _ _ _ _ _ _ _ _ _))
      simp only [ih, Option.map_some]
theorem spec_QcCode.eq (k : Nat) (a0_0 : Int) (a0_1 : Int) (a0_2 : Int) (a0_3 : Int) (a0_4 : Int) (a1_0z : Bool) (a1_0 : List T) (a2_0 : Int) (a2_1 : Int) (a2_2z : Bool) (a2_2 : List Int) (a2_3z : Bool) (a2_3 : List Int) (a2_4z : Bool) (a2_4 : List T) : answer Try.prog spec_QcCode.Cs 100000 spec_QcCode.cuts [] Try.f32 (k + 1) [.v (.agg [(.int .i64 a0_0), (.int .i64 a0_1), (.int .i64 a0_2), (.int .i64 a0_3), (.int .i64 a0_4)]), .v (.agg [(.sl 160 a1_0z a1_0)]), .v (.agg [(.int .i64 a2_0), (.int .i64 a2_1), (.nums 5 .u8 a2_2z a2_2), (.nums 5 .u8 a2_3z a2_3), (.sl 45 a2_4z a2_4)])] = (spec_QcCode.f (k + 1) a0_0 a0_1 a0_2 a0_3 a0_4 a1_0z a1_0 a2_0 a2_1 a2_2z a2_2 a2_3z a2_3 a2_4z a2_4).map spec_QcCode.enc := by
  have ih := spec_QcCode.rounds_eq a0_0 a0_1 a0_2 a0_3 a0_4 a1_0z a1_0 a2_0 a2_1 a2_2z a2_2 a2_3z a2_3 a2_4z a2_4 k
  refine (spec_QcCode.s k a0_0 a0_1 a0_2 a0_3 a0_4 a1_0z a1_0 a2_0 a2_1 a2_2z a2_2 a2_3z a2_3 a2_4z a2_4).trans (Eq.trans ?_ (spec_QcCode.b_nat spec_QcCode.enc some (spec_QcCode.l0 k) k a0_0 a0_1 a0_2 a0_3 a0_4 a1_0z a1_0 a2_0 a2_1 a2_2z a2_2 a2_3z a2_3 a2_4z a2_4))
  simp only [ih, Option.map_some]
theorem spec_QcCode.sound (k : Nat) : SoundF Try.prog 32 (fun a => (spec_QcCode.ans k a).val) := by
  refine sound_plain (fun args res h => ?_) (fun t n => rfl)
  unfold spec_QcCode.ans at h
  dsimp only at h
  split at h
  · cases k with
    | zero => cases h
    | succ k =>
      unfold Ans.val at h
      rw [← spec_QcCode.eq] at h
      exact answer_sound mixed Try.func32 _ _ _ (k + 1) (fun j _ => tab_sound (tab_cons (spec_l23Goes.sound j) (tab_cons (spec_QcOk.sound j) (tab_cons (spec_QcVotes.sound j) (tab_cons (spec_VoteGood.sound j) (tab_cons (spec_IsQuorum.sound j) (tab_nil))))))) _ _ h
  · exact (Ans.no_val h).elim

/-! loop.example/g00790/impl.within -/
def impl_within.b {R : Type} (ret : Bool → Option R) (k : Nat) (a0 : Int) (a1 : Int) (a2 : Int) : Option R :=
  cond (decide (a1 ≤ a0)) (ret (decide (a0 ≤ a2))) (ret false)
def impl_within.f : Nat → Int → Int → Int → Option Bool
  | 0, _, _, _ => none
  | k + 1, a0, a1, a2 => impl_within.b some k a0 a1 a2
def impl_within.enc (r : Bool) : Res := ⟨[.vals false [((.bool r), true)]], []⟩
def impl_within.ans (k : Nat) : List Arg → Ans
  | [.v (.int .i64 a0), .v (.int .i64 a1), .v (.int .i64 a2)] => ⟨impl_within.f k a0 a1 a2, impl_within.enc⟩
  | _ => Ans.no
def impl_within.Cs (k : Nat) : CallSem := tab []
def impl_within.cuts : List (Nat × Keep) := []
theorem impl_within.s (k : Nat) (a0 : Int) (a1 : Int) (a2 : Int) : answer Try.prog impl_within.Cs 100000 impl_within.cuts [] Try.f126 (k + 1) [.v (.int .i64 a0), .v (.int .i64 a1), .v (.int .i64 a2)] = impl_within.b (fun r => some (impl_within.enc r)) k a0 a1 a2 := by kernel_rfl
theorem impl_within.b_nat {R R' : Type} (e : R → R') (ret : Bool → Option R) (k : Nat) (a0 : Int) (a1 : Int) (a2 : Int) : impl_within.b (fun r => (ret r).map e) k a0 a1 a2 = (impl_within.b ret k a0 a1 a2).map e := by
  unfold impl_within.b
  repeat' first | with_reducible refine nat_cond ?_ ?_ | with_reducible refine nat_bind fun _ => ?_ | rfl
theorem impl_within.eq (k : Nat) (a0 : Int) (a1 : Int) (a2 : Int) : answer Try.prog impl_within.Cs 100000 impl_within.cuts [] Try.f126 (k + 1) [.v (.int .i64 a0), .v (.int .i64 a1), .v (.int .i64 a2)] = (impl_within.f (k + 1) a0 a1 a2).map impl_within.enc := by
  refine (impl_within.s k a0 a1 a2).trans (Eq.trans ?_ (impl_within.b_nat impl_within.enc some k a0 a1 a2))
  simp only [Option.map_some]
theorem impl_within.sound (k : Nat) : SoundF Try.prog 126 (fun a => (impl_within.ans k a).val) := by
  refine sound_plain (fun args res h => ?_) (fun t n => rfl)
  unfold impl_within.ans at h
  dsimp only at h
  split at h
  · cases k with
    | zero => cases h
    | succ k =>
      unfold Ans.val at h
      rw [← impl_within.eq] at h
      exact answer_sound mixed Try.func126 _ _ _ (k + 1) (fun j _ => tab_sound (tab_nil)) _ _ h
  · exact (Ans.no_val h).elim

/-! loop.example/g00790/impl.LimitsOk -/
def impl_LimitsOk.b {R : Type} (ret : Bool → Option R) (k : Nat) (a0_0 : Int) (a0_1 : Int) (a0_2 : Int) (a0_3 : Int) (a0_4 : Int) : Option R :=
  (impl_within.f k a0_0 1 10).bind fun t0 => cond t0 ((impl_within.f k a0_1 0 40).bind fun t1 => cond t1 ((impl_within.f k a0_2 0 8).bind fun t2 => cond t2 ((impl_within.f k a0_3 1 4000).bind fun t3 => cond t3 ((impl_within.f k a0_4 3 5).bind fun t4 => ret t4) (ret false)) (ret false)) (ret false)) (ret false)
def impl_LimitsOk.f : Nat → Int → Int → Int → Int → Int → Option Bool
  | 0, _, _, _, _, _ => none
  | k + 1, a0_0, a0_1, a0_2, a0_3, a0_4 => impl_LimitsOk.b some k a0_0 a0_1 a0_2 a0_3 a0_4
def impl_LimitsOk.enc (r : Bool) : Res := ⟨[.vals false [((.bool r), true)]], []⟩
def impl_LimitsOk.ans (k : Nat) : List Arg → Ans
  | [.v (.agg [(.int .i64 a0_0), (.int .i64 a0_1), (.int .i64 a0_2), (.int .i64 a0_3), (.int .i64 a0_4)])] => ⟨impl_LimitsOk.f k a0_0 a0_1 a0_2 a0_3 a0_4, impl_LimitsOk.enc⟩
  | _ => Ans.no
def impl_LimitsOk.Cs (k : Nat) : CallSem := tab [(126, impl_within.ans k)]
def impl_LimitsOk.cuts : List (Nat × Keep) := []
theorem impl_LimitsOk.s (k : Nat) (a0_0 : Int) (a0_1 : Int) (a0_2 : Int) (a0_3 : Int) (a0_4 : Int) : answer Try.prog impl_LimitsOk.Cs 100000 impl_LimitsOk.cuts [] Try.f86 (k + 1) [.v (.agg [(.int .i64 a0_0), (.int .i64 a0_1), (.int .i64 a0_2), (.int .i64 a0_3), (.int .i64 a0_4)])] = impl_LimitsOk.b (fun r => some (impl_LimitsOk.enc r)) k a0_0 a0_1 a0_2 a0_3 a0_4 := by kernel_rfl
theorem impl_LimitsOk.b_nat {R R' : Type} (e : R → R') (ret : Bool → Option R) (k : Nat) (a0_0 : Int) (a0_1 : Int) (a0_2 : Int) (a0_3 : Int) (a0_4 : Int) : impl_LimitsOk.b (fun r => (ret r).map e) k a0_0 a0_1 a0_2 a0_3 a0_4 = (impl_LimitsOk.b ret k a0_0 a0_1 a0_2 a0_3 a0_4).map e := by
  unfold impl_LimitsOk.b
  repeat' first | with_reducible refine nat_cond ?_ ?_ | with_reducible refine nat_bind fun _ => ?_ | rfl
theorem impl_LimitsOk.eq (k : Nat) (a0_0 : Int) (a0_1 : Int) (a0_2 : Int) (a0_3 : Int) (a0_4 : Int) : answer Try.prog impl_LimitsOk.Cs 100000 impl_LimitsOk.cuts [] Try.f86 (k + 1) [.v (.agg [(.int .i64 a0_0), (.int .i64 a0_1), (.int .i64 a0_2), (.int .i64 a0_3), (.int .i64 a0_4)])] = (impl_LimitsOk.f (k + 1) a0_0 a0_1 a0_2 a0_3 a0_4).map impl_LimitsOk.enc := by
  refine (impl_LimitsOk.s k a0_0 a0_1 a0_2 a0_3 a0_4).trans (Eq.trans ?_ (impl_LimitsOk.b_nat impl_LimitsOk.enc some k a0_0 a0_1 a0_2 a0_3 a0_4))
  simp only [Option.map_some]
theorem impl_LimitsOk.sound (k : Nat) : SoundF Try.prog 86 (fun a => (impl_LimitsOk.ans k a).val) := by
  refine sound_plain (fun args res h => ?_) (fun t n => rfl)
  unfold impl_LimitsOk.ans at h
  dsimp only at h
  split at h
  · cases k with
    | zero => cases h
    | succ k =>
      unfold Ans.val at h
      rw [← impl_LimitsOk.eq] at h
      exact answer_sound mixed Try.func86 _ _ _ (k + 1) (fun j _ => tab_sound (tab_cons (impl_within.sound j) (tab_nil))) _ _ h
  · exact (Ans.no_val h).elim

/-! loop.example/g00790/impl.TableOk -/
def impl_TableOk.b {R : Type} (ret : Bool → Option R) (j0 : Bool → (List T) → Int → Int → Bool → (List T) → Option R) (k : Nat) (a0_0z : Bool) (a0_0 : List T) : Option R :=
  j0 a0_0z a0_0 ((a0_0).length : Int) 0 a0_0z a0_0
def impl_TableOk.l0b {R : Type} (ret : Bool → Option R) (j0 : Bool → (List T) → Int → Int → Bool → (List T) → Option R) (k : Nat) (x6z : Bool) (x6 : List T) (x7 : Int) (x8 : Int) (c1_0z : Bool) (c1_0 : List T) : Option R :=
  cond (decide (x8 < x7)) (cond (decide ((0 : Int) ≤ x8)) (cond (decide (x8 < ((x6).length : Int))) ((impl_within.f k (((((x6).getD (x8).toNat .bad).cells.getD 0 .bad)).toInt) 1 1099511627776).bind fun t0 => cond (!t0) (ret false) ((impl_within.f k ((((((x6).getD (x8).toNat .bad).cells.getD 1 .bad)).toNums).length : Int) 1 64).bind fun t1 => cond (!t1) (ret false) (j0 x6z x6 x7 (RowKit.wrap64 (x8 + 1)) c1_0z c1_0))) (none)) (none)) ((impl_within.f k ((c1_0).length : Int) 1 10).bind fun t0 => ret t0)
def impl_TableOk.l0 : Nat → Bool → (List T) → Int → Int → Bool → (List T) → Option Bool
  | 0, _, _, _, _, _, _ => none
  | k + 1, x6z, x6, x7, x8, c1_0z, c1_0 => impl_TableOk.l0b some (impl_TableOk.l0 k) k x6z x6 x7 x8 c1_0z c1_0
def impl_TableOk.f : Nat → Bool → (List T) → Option Bool
  | 0, _, _ => none
  | k + 1, a0_0z, a0_0 => impl_TableOk.b some (impl_TableOk.l0 k) k a0_0z a0_0
def impl_TableOk.enc (r : Bool) : Res := ⟨[.vals false [((.bool r), true)]], []⟩
def impl_TableOk.ans (k : Nat) : List Arg → Ans
  | [.v (.agg [(.sl 160 a0_0z a0_0)])] => ⟨impl_TableOk.f k a0_0z a0_0, impl_TableOk.enc⟩
  | _ => Ans.no
def impl_TableOk.Cs (k : Nat) : CallSem := tab [(126, impl_within.ans k)]
def impl_TableOk.cuts : List (Nat × Keep) := [(26, ⟨[(1, some []), (6, some []), (7, some []), (8, some [])], [(1, [some []])]⟩)]
noncomputable def impl_TableOk.K0 : List Fr := framesAt [true, false, true, false] (bodyOf Try.f125 impl_TableOk.cuts) []
def impl_TableOk.N0 (x6z : Bool) (x6 : List T) (x7 : Int) (x8 : Int) (c1_0z : Bool) (c1_0 : List T) : St := stOf 28 28 1 [(1, .bp 1 0), (6, .val ⟨(.sl 160 x6z x6), [], false, none⟩), (7, .val (V.s (.int .i64 x7))), (8, .val (V.s (.int .i64 x8)))] [(1, .cells [⟨(.sl 160 c1_0z c1_0), [], false, none⟩])]
theorem impl_TableOk.s (k : Nat) (a0_0z : Bool) (a0_0 : List T) : answer Try.prog impl_TableOk.Cs 100000 impl_TableOk.cuts [] Try.f125 (k + 1) [.v (.agg [(.sl 160 a0_0z a0_0)])] = impl_TableOk.b (fun r => some (impl_TableOk.enc r)) (fun x6z x6 x7 x8 c1_0z c1_0 => rounds Try.prog impl_TableOk.Cs (finish Try.prog [] Try.f125 [.v (.agg [(.sl 160 a0_0z a0_0)])]) 100000 k impl_TableOk.K0 (impl_TableOk.N0 x6z x6 x7 x8 c1_0z c1_0)) k a0_0z a0_0 := by kernel_rfl
theorem impl_TableOk.s0 (k : Nat) (G : List Fr → St → Option Res) (a0_0z : Bool) (a0_0 : List T) (yx6z : Bool) (yx6 : List T) (yx7 : Int) (yx8 : Int) (yc1_0z : Bool) (yc1_0 : List T) : resume Try.prog (impl_TableOk.Cs k) G (finish Try.prog [] Try.f125 [.v (.agg [(.sl 160 a0_0z a0_0)])]) 100000 impl_TableOk.K0 (impl_TableOk.N0 yx6z yx6 yx7 yx8 yc1_0z yc1_0) = impl_TableOk.l0b (fun r => some (impl_TableOk.enc r)) (fun x6z x6 x7 x8 c1_0z c1_0 => G impl_TableOk.K0 (impl_TableOk.N0 x6z x6 x7 x8 c1_0z c1_0)) k yx6z yx6 yx7 yx8 yc1_0z yc1_0 := by kernel_rfl
theorem impl_TableOk.b_nat {R R' : Type} (e : R → R') (ret : Bool → Option R) (j0 : Bool → (List T) → Int → Int → Bool → (List T) → Option R) (k : Nat) (a0_0z : Bool) (a0_0 : List T) : impl_TableOk.b (fun r => (ret r).map e) (fun x6z x6 x7 x8 c1_0z c1_0 => (j0 x6z x6 x7 x8 c1_0z c1_0).map e) k a0_0z a0_0 = (impl_TableOk.b ret j0 k a0_0z a0_0).map e := by
  unfold impl_TableOk.b
  repeat' first | with_reducible refine nat_cond ?_ ?_ | with_reducible refine nat_bind fun _ => ?_ | rfl
theorem impl_TableOk.l0b_nat {R R' : Type} (e : R → R') (ret : Bool → Option R) (j0 : Bool → (List T) → Int → Int → Bool → (List T) → Option R) (k : Nat) (x6z : Bool) (x6 : List T) (x7 : Int) (x8 : Int) (c1_0z : Bool) (c1_0 : List T) : impl_TableOk.l0b (fun r => (ret r).map e) (fun x6z x6 x7 x8 c1_0z c1_0 => (j0 x6z x6 x7 x8 c1_0z c1_0).map e) k x6z x6 x7 x8 c1_0z c1_0 = (impl_TableOk.l0b ret j0 k x6z x6 x7 x8 c1_0z c1_0).map e := by
  unfold impl_TableOk.l0b
  repeat' first | with_reducible refine nat_cond ?_ ?_ | with_reducible refine nat_bind fun _ => ?_ | rfl
theorem impl_TableOk.rounds_eq (a0_0z : Bool) (a0_0 : List T) : ∀ k, (∀ (x6z : Bool) (x6 : List T) (x7 : Int) (x8 : Int) (c1_0z : Bool) (c1_0 : List T), rounds Try.prog impl_TableOk.Cs (finish Try.prog [] Try.f125 [.v (.agg [(.sl 160 a0_0z a0_0)])]) 100000 k impl_TableOk.K0 (impl_TableOk.N0 x6z x6 x7 x8 c1_0z c1_0) = (impl_TableOk.l0 k x6z x6 x7 x8 c1_0z c1_0).map impl_TableOk.enc)
  | 0 => fun _ _ _ _ _ _ => rfl
  | k + 1 => by
    have ih := impl_TableOk.rounds_eq a0_0z a0_0 k
    refine fun _ _ _ _ _ _ => ?_
    · refine (impl_TableOk.s0 k _ a0_0z a0_0 _ _ _ _ _ _).trans (Eq.trans ?_ (impl_TableOk.l0b_nat impl_TableOk.enc some (impl_TableOk.l0 k) k _ _ _ _ _ _))
      simp only [ih, Option.map_some]
theorem impl_TableOk.eq (k : Nat) (a0_0z : Bool) (a0_0 : List T) : answer Try.prog impl_TableOk.Cs 100000 impl_TableOk.cuts [] Try.f125 (k + 1) [.v (.agg [(.sl 160 a0_0z a0_0)])] = (impl_TableOk.f (k + 1) a0_0z a0_0).map impl_TableOk.enc := by
  have ih := impl_TableOk.rounds_eq a0_0z a0_0 k
  refine (impl_TableOk.s k a0_0z a0_0).trans (Eq.trans ?_ (impl_TableOk.b_nat impl_TableOk.enc some (impl_TableOk.l0 k) k a0_0z a0_0))
  simp only [ih, Option.map_some]
theorem impl_TableOk.sound (k : Nat) : SoundF Try.prog 125 (fun a => (impl_TableOk.ans k a).val) := by
  refine sound_plain (fun args res h => ?_) (fun t n => rfl)
  unfold impl_TableOk.ans at h
  dsimp only at h
  split at h
  · cases k with
    | zero => cases h
    | succ k =>
      unfold Ans.val at h
      rw [← impl_TableOk.eq] at h
      exact answer_sound mixed Try.func125 _ _ _ (k + 1) (fun j _ => tab_sound (tab_cons (impl_within.sound j) (tab_nil))) _ _ h
  · exact (Ans.no_val h).elim

/-! loop.example/g00790/impl.belongs -/
def impl_belongs.b {R : Type} (ret : Bool → Option R) (k : Nat) (a0_0 : Int) (a0_1 : Int) (a0_2 : Int) (a0_3 : Int) (a0_4 : Int) (a1_0z : Bool) (a1_0 : List T) : Option R :=
  (impl_LimitsOk.f k a0_0 a0_1 a0_2 a0_3 a0_4).bind fun t0 => cond t0 ((impl_TableOk.f k a1_0z a1_0).bind fun t1 => cond t1 (ret (decide (((a1_0).length : Int) = a0_0))) (ret false)) (ret false)
def impl_belongs.f : Nat → Int → Int → Int → Int → Int → Bool → (List T) → Option Bool
  | 0, _, _, _, _, _, _, _ => none
  | k + 1, a0_0, a0_1, a0_2, a0_3, a0_4, a1_0z, a1_0 => impl_belongs.b some k a0_0 a0_1 a0_2 a0_3 a0_4 a1_0z a1_0
def impl_belongs.enc (r : Bool) : Res := ⟨[.vals false [((.bool r), true)]], []⟩
def impl_belongs.ans (k : Nat) : List Arg → Ans
  | [.v (.agg [(.int .i64 a0_0), (.int .i64 a0_1), (.int .i64 a0_2), (.int .i64 a0_3), (.int .i64 a0_4)]), .v (.agg [(.sl 160 a1_0z a1_0)])] => ⟨impl_belongs.f k a0_0 a0_1 a0_2 a0_3 a0_4 a1_0z a1_0, impl_belongs.enc⟩
  | _ => Ans.no
def impl_belongs.Cs (k : Nat) : CallSem := tab [(86, impl_LimitsOk.ans k), (125, impl_TableOk.ans k)]
def impl_belongs.cuts : List (Nat × Keep) := []
theorem impl_belongs.s (k : Nat) (a0_0 : Int) (a0_1 : Int) (a0_2 : Int) (a0_3 : Int) (a0_4 : Int) (a1_0z : Bool) (a1_0 : List T) : answer Try.prog impl_belongs.Cs 100000 impl_belongs.cuts [] Try.f93 (k + 1) [.v (.agg [(.int .i64 a0_0), (.int .i64 a0_1), (.int .i64 a0_2), (.int .i64 a0_3), (.int .i64 a0_4)]), .v (.agg [(.sl 160 a1_0z a1_0)])] = impl_belongs.b (fun r => some (impl_belongs.enc r)) k a0_0 a0_1 a0_2 a0_3 a0_4 a1_0z a1_0 := by kernel_rfl
theorem impl_belongs.b_nat {R R' : Type} (e : R → R') (ret : Bool → Option R) (k : Nat) (a0_0 : Int) (a0_1 : Int) (a0_2 : Int) (a0_3 : Int) (a0_4 : Int) (a1_0z : Bool) (a1_0 : List T) : impl_belongs.b (fun r => (ret r).map e) k a0_0 a0_1 a0_2 a0_3 a0_4 a1_0z a1_0 = (impl_belongs.b ret k a0_0 a0_1 a0_2 a0_3 a0_4 a1_0z a1_0).map e := by
  unfold impl_belongs.b
  repeat' first | with_reducible refine nat_cond ?_ ?_ | with_reducible refine nat_bind fun _ => ?_ | rfl
theorem impl_belongs.eq (k : Nat) (a0_0 : Int) (a0_1 : Int) (a0_2 : Int) (a0_3 : Int) (a0_4 : Int) (a1_0z : Bool) (a1_0 : List T) : answer Try.prog impl_belongs.Cs 100000 impl_belongs.cuts [] Try.f93 (k + 1) [.v (.agg [(.int .i64 a0_0), (.int .i64 a0_1), (.int .i64 a0_2), (.int .i64 a0_3), (.int .i64 a0_4)]), .v (.agg [(.sl 160 a1_0z a1_0)])] = (impl_belongs.f (k + 1) a0_0 a0_1 a0_2 a0_3 a0_4 a1_0z a1_0).map impl_belongs.enc := by
  refine (impl_belongs.s k a0_0 a0_1 a0_2 a0_3 a0_4 a1_0z a1_0).trans (Eq.trans ?_ (impl_belongs.b_nat impl_belongs.enc some k a0_0 a0_1 a0_2 a0_3 a0_4 a1_0z a1_0))
  simp only [Option.map_some]
theorem impl_belongs.sound (k : Nat) : SoundF Try.prog 93 (fun a => (impl_belongs.ans k a).val) := by
  refine sound_plain (fun args res h => ?_) (fun t n => rfl)
  unfold impl_belongs.ans at h
  dsimp only at h
  split at h
  · cases k with
    | zero => cases h
    | succ k =>
      unfold Ans.val at h
      rw [← impl_belongs.eq] at h
      exact answer_sound mixed Try.func93 _ _ _ (k + 1) (fun j _ => tab_sound (tab_cons (impl_LimitsOk.sound j) (tab_cons (impl_TableOk.sound j) (tab_nil)))) _ _ h
  · exact (Ans.no_val h).elim

/-! loop.example/g00790/impl.isNum -/
def impl_isNum.b {R : Type} (ret : Bool → Option R) (k : Nat) (a0 : Int) : Option R :=
  (impl_within.f k a0 0 1152921504606846975).bind fun t0 => ret t0
def impl_isNum.f : Nat → Int → Option Bool
  | 0, _ => none
  | k + 1, a0 => impl_isNum.b some k a0
def impl_isNum.enc (r : Bool) : Res := ⟨[.vals false [((.bool r), true)]], []⟩
def impl_isNum.ans (k : Nat) : List Arg → Ans
  | [.v (.int .i64 a0)] => ⟨impl_isNum.f k a0, impl_isNum.enc⟩
  | _ => Ans.no
def impl_isNum.Cs (k : Nat) : CallSem := tab [(126, impl_within.ans k)]
def impl_isNum.cuts : List (Nat × Keep) := []
theorem impl_isNum.s (k : Nat) (a0 : Int) : answer Try.prog impl_isNum.Cs 100000 impl_isNum.cuts [] Try.f161 (k + 1) [.v (.int .i64 a0)] = impl_isNum.b (fun r => some (impl_isNum.enc r)) k a0 := by kernel_rfl
theorem impl_isNum.b_nat {R R' : Type} (e : R → R') (ret : Bool → Option R) (k : Nat) (a0 : Int) : impl_isNum.b (fun r => (ret r).map e) k a0 = (impl_isNum.b ret k a0).map e := by
  unfold impl_isNum.b
  repeat' first | with_reducible refine nat_cond ?_ ?_ | with_reducible refine nat_bind fun _ => ?_ | rfl
theorem impl_isNum.eq (k : Nat) (a0 : Int) : answer Try.prog impl_isNum.Cs 100000 impl_isNum.cuts [] Try.f161 (k + 1) [.v (.int .i64 a0)] = (impl_isNum.f (k + 1) a0).map impl_isNum.enc := by
  refine (impl_isNum.s k a0).trans (Eq.trans ?_ (impl_isNum.b_nat impl_isNum.enc some k a0))
  simp only [Option.map_some]
theorem impl_isNum.sound (k : Nat) : SoundF Try.prog 161 (fun a => (impl_isNum.ans k a).val) := by
  refine sound_plain (fun args res h => ?_) (fun t n => rfl)
  unfold impl_isNum.ans at h
  dsimp only at h
  split at h
  · cases k with
    | zero => cases h
    | succ k =>
      unfold Ans.val at h
      rw [← impl_isNum.eq] at h
      exact answer_sound mixed Try.func161 _ _ _ (k + 1) (fun j _ => tab_sound (tab_cons (impl_within.sound j) (tab_nil))) _ _ h
  · exact (Ans.no_val h).elim

/-! loop.example/g00790/impl.areHashes -/
def impl_areHashes.b {R : Type} (ret : Bool → Option R) (j0 : Bool → (List T) → Int → Int → Option R) (k : Nat) (a0z : Bool) (a0 : List T) : Option R :=
  j0 a0z a0 ((a0).length : Int) 0
def impl_areHashes.l0b {R : Type} (ret : Bool → Option R) (j0 : Bool → (List T) → Int → Int → Option R) (k : Nat) (x5z : Bool) (x5 : List T) (x6 : Int) (x7 : Int) : Option R :=
  cond (decide (x7 < x6)) (cond (decide ((0 : Int) ≤ x7)) (cond (decide (x7 < ((x5).length : Int))) (cond (!(decide (((((((x5).getD (x7).toNat .bad).cells.getD 0 .bad)).toNums).length : Int) = 32))) (ret false) (j0 x5z x5 x6 (RowKit.wrap64 (x7 + 1)))) (none)) (none)) (ret true)
def impl_areHashes.l0 : Nat → Bool → (List T) → Int → Int → Option Bool
  | 0, _, _, _, _ => none
  | k + 1, x5z, x5, x6, x7 => impl_areHashes.l0b some (impl_areHashes.l0 k) k x5z x5 x6 x7
def impl_areHashes.f : Nat → Bool → (List T) → Option Bool
  | 0, _, _ => none
  | k + 1, a0z, a0 => impl_areHashes.b some (impl_areHashes.l0 k) k a0z a0
def impl_areHashes.enc (r : Bool) : Res := ⟨[.vals false [((.bool r), true)]], []⟩
def impl_areHashes.ans (k : Nat) : List Arg → Ans
  | [.v (.sl 45 a0z a0)] => ⟨impl_areHashes.f k a0z a0, impl_areHashes.enc⟩
  | _ => Ans.no
def impl_areHashes.Cs (k : Nat) : CallSem := tab []
def impl_areHashes.cuts : List (Nat × Keep) := [(26, ⟨[(5, some []), (6, some []), (7, some [])], []⟩)]
noncomputable def impl_areHashes.K0 : List Fr := framesAt [true, false, true, false] (bodyOf Try.f162 impl_areHashes.cuts) []
def impl_areHashes.N0 (x5z : Bool) (x5 : List T) (x6 : Int) (x7 : Int) : St := stOf 15 15 1 [(5, .val ⟨(.sl 45 x5z x5), [], false, none⟩), (6, .val (V.s (.int .i64 x6))), (7, .val (V.s (.int .i64 x7)))] []
theorem impl_areHashes.s (k : Nat) (a0z : Bool) (a0 : List T) : answer Try.prog impl_areHashes.Cs 100000 impl_areHashes.cuts [] Try.f162 (k + 1) [.v (.sl 45 a0z a0)] = impl_areHashes.b (fun r => some (impl_areHashes.enc r)) (fun x5z x5 x6 x7 => rounds Try.prog impl_areHashes.Cs (finish Try.prog [] Try.f162 [.v (.sl 45 a0z a0)]) 100000 k impl_areHashes.K0 (impl_areHashes.N0 x5z x5 x6 x7)) k a0z a0 := by kernel_rfl
theorem impl_areHashes.s0 (k : Nat) (G : List Fr → St → Option Res) (a0z : Bool) (a0 : List T) (yx5z : Bool) (yx5 : List T) (yx6 : Int) (yx7 : Int) : resume Try.prog (impl_areHashes.Cs k) G (finish Try.prog [] Try.f162 [.v (.sl 45 a0z a0)]) 100000 impl_areHashes.K0 (impl_areHashes.N0 yx5z yx5 yx6 yx7) = impl_areHashes.l0b (fun r => some (impl_areHashes.enc r)) (fun x5z x5 x6 x7 => G impl_areHashes.K0 (impl_areHashes.N0 x5z x5 x6 x7)) k yx5z yx5 yx6 yx7 := by kernel_rfl
theorem impl_areHashes.b_nat {R R' : Type} (e : R → R') (ret : Bool → Option R) (j0 : Bool → (List T) → Int → Int → Option R) (k : Nat) (a0z : Bool) (a0 : List T) : impl_areHashes.b (fun r => (ret r).map e) (fun x5z x5 x6 x7 => (j0 x5z x5 x6 x7).map e) k a0z a0 = (impl_areHashes.b ret j0 k a0z a0).map e := by
  unfold impl_areHashes.b
  repeat' first | with_reducible refine nat_cond ?_ ?_ | with_reducible refine nat_bind fun _ => ?_ | rfl
theorem impl_areHashes.l0b_nat {R R' : Type} (e : R → R') (ret : Bool → Option R) (j0 : Bool → (List T) → Int → Int → Option R) (k : Nat) (x5z : Bool) (x5 : List T) (x6 : Int) (x7 : Int) : impl_areHashes.l0b (fun r => (ret r).map e) (fun x5z x5 x6 x7 => (j0 x5z x5 x6 x7).map e) k x5z x5 x6 x7 = (impl_areHashes.l0b ret j0 k x5z x5 x6 x7).map e := by
  unfold impl_areHashes.l0b
  repeat' first | with_reducible refine nat_cond ?_ ?_ | with_reducible refine nat_bind fun _ => ?_ | rfl
theorem impl_areHashes.rounds_eq (a0z : Bool) (a0 : List T) : ∀ k, (∀ (x5z : Bool) (x5 : List T) (x6 : Int) (x7 : Int), rounds Try.prog impl_areHashes.Cs (finish Try.prog [] Try.f162 [.v (.sl 45 a0z a0)]) 100000 k impl_areHashes.K0 (impl_areHashes.N0 x5z x5 x6 x7) = (impl_areHashes.l0 k x5z x5 x6 x7).map impl_areHashes.enc)
  | 0 => fun _ _ _ _ => rfl
  | k + 1 => by
    have ih := impl_areHashes.rounds_eq a0z a0 k
    refine fun _ _ _ _ => ?_
    · refine (impl_areHashes.s0 k _ a0z a0 _ _ _ _).trans (Eq.trans ?_ (impl_areHashes.l0b_nat impl_areHashes.enc some (impl_areHashes.l0 k) k _ _ _ _))
      simp only [ih, Option.map_some]
theorem impl_areHashes.eq (k : Nat) (a0z : Bool) (a0 : List T) : answer Try.prog impl_areHashes.Cs 100000 impl_areHashes.cuts [] Try.f162 (k + 1) [.v (.sl 45 a0z a0)] = (impl_areHashes.f (k + 1) a0z a0).map impl_areHashes.enc := by
  have ih := impl_areHashes.rounds_eq a0z a0 k
  refine (impl_areHashes.s k a0z a0).trans (Eq.trans ?_ (impl_areHashes.b_nat impl_areHashes.enc some (impl_areHashes.l0 k) k a0z a0))
  simp only [ih, Option.map_some]
theorem impl_areHashes.sound (k : Nat) : SoundF Try.prog 162 (fun a => (impl_areHashes.ans k a).val) := by
  refine sound_plain (fun args res h => ?_) (fun t n => rfl)
  unfold impl_areHashes.ans at h
  dsimp only at h
  split at h
  · cases k with
    | zero => cases h
    | succ k =>
      unfold Ans.val at h
      rw [← impl_areHashes.eq] at h
      exact answer_sound mixed Try.func162 _ _ _ (k + 1) (fun j _ => tab_sound (tab_nil)) _ _ h
  · exact (Ans.no_val h).elim

/-! loop.example/g00790/impl.BitsSize -/
def impl_BitsSize.b {R : Type} (ret : Int → Option R) (k : Nat) (a0 : Int) : Option R :=
  cond (decide (a0 < 1)) (ret 0) (ret (RowKit.wrap64 ((RowKit.wrap64 (Int.tdiv (RowKit.wrap64 (a0 - 1)) 8)) + 1)))
def impl_BitsSize.f : Nat → Int → Option Int
  | 0, _ => none
  | k + 1, a0 => impl_BitsSize.b some k a0
def impl_BitsSize.enc (r : Int) : Res := ⟨[.vals false [((.int .i64 r), true)]], []⟩
def impl_BitsSize.ans (k : Nat) : List Arg → Ans
  | [.v (.int .i64 a0)] => ⟨impl_BitsSize.f k a0, impl_BitsSize.enc⟩
  | _ => Ans.no
def impl_BitsSize.Cs (k : Nat) : CallSem := tab []
def impl_BitsSize.cuts : List (Nat × Keep) := []
theorem impl_BitsSize.s (k : Nat) (a0 : Int) : answer Try.prog impl_BitsSize.Cs 100000 impl_BitsSize.cuts [] Try.f189 (k + 1) [.v (.int .i64 a0)] = impl_BitsSize.b (fun r => some (impl_BitsSize.enc r)) k a0 := by kernel_rfl
theorem impl_BitsSize.b_nat {R R' : Type} (e : R → R') (ret : Int → Option R) (k : Nat) (a0 : Int) : impl_BitsSize.b (fun r => (ret r).map e) k a0 = (impl_BitsSize.b ret k a0).map e := by
  unfold impl_BitsSize.b
  repeat' first | with_reducible refine nat_cond ?_ ?_ | with_reducible refine nat_bind fun _ => ?_ | rfl
theorem impl_BitsSize.eq (k : Nat) (a0 : Int) : answer Try.prog impl_BitsSize.Cs 100000 impl_BitsSize.cuts [] Try.f189 (k + 1) [.v (.int .i64 a0)] = (impl_BitsSize.f (k + 1) a0).map impl_BitsSize.enc := by
  refine (impl_BitsSize.s k a0).trans (Eq.trans ?_ (impl_BitsSize.b_nat impl_BitsSize.enc some k a0))
  simp only [Option.map_some]
theorem impl_BitsSize.sound (k : Nat) : SoundF Try.prog 189 (fun a => (impl_BitsSize.ans k a).val) := by
  refine sound_plain (fun args res h => ?_) (fun t n => rfl)
  unfold impl_BitsSize.ans at h
  dsimp only at h
  split at h
  · cases k with
    | zero => cases h
    | succ k =>
      unfold Ans.val at h
      rw [← impl_BitsSize.eq] at h
      exact answer_sound mixed Try.func189 _ _ _ (k + 1) (fun j _ => tab_sound (tab_nil)) _ _ h
  · exact (Ans.no_val h).elim

/-! loop.example/g00790/impl.BitsHas -/
def impl_BitsHas.b {R : Type} (ret : Bool → Option R) (k : Nat) (a0z : Bool) (a0 : List Int) (a1 : Int) : Option R :=
  (impl_within.f k a1 0 (RowKit.wrap64 ((RowKit.wrap64 ((8 : Int) * ((a0).length : Int))) - 1))).bind fun t0 => cond t0 (cond (decide ((0 : Int) ≤ (RowKit.wrap64 (Int.tdiv a1 8)))) (cond (decide ((RowKit.wrap64 (Int.tdiv a1 8)) < ((a0).length : Int))) (cond (decide ((0 : Int) ≤ (Int.tmod a1 8))) (ret (decide ((Go.bits .and .u8 (shrI .u8 (rdI a0 (RowKit.wrap64 (Int.tdiv a1 8))) (Int.tmod a1 8)) 1) = 1))) (none)) (none)) (none)) (ret false)
def impl_BitsHas.f : Nat → Bool → (List Int) → Int → Option Bool
  | 0, _, _, _ => none
  | k + 1, a0z, a0, a1 => impl_BitsHas.b some k a0z a0 a1
def impl_BitsHas.enc (r : Bool) : Res := ⟨[.vals false [((.bool r), true)]], []⟩
def impl_BitsHas.ans (k : Nat) : List Arg → Ans
  | [.v (.nums 5 .u8 a0z a0), .v (.int .i64 a1)] => ⟨impl_BitsHas.f k a0z a0 a1, impl_BitsHas.enc⟩
  | _ => Ans.no
def impl_BitsHas.Cs (k : Nat) : CallSem := tab [(126, impl_within.ans k)]
def impl_BitsHas.cuts : List (Nat × Keep) := []
theorem impl_BitsHas.s (k : Nat) (a0z : Bool) (a0 : List Int) (a1 : Int) : answer Try.prog impl_BitsHas.Cs 100000 impl_BitsHas.cuts [] Try.f190 (k + 1) [.v (.nums 5 .u8 a0z a0), .v (.int .i64 a1)] = impl_BitsHas.b (fun r => some (impl_BitsHas.enc r)) k a0z a0 a1 := by kernel_rfl
theorem impl_BitsHas.b_nat {R R' : Type} (e : R → R') (ret : Bool → Option R) (k : Nat) (a0z : Bool) (a0 : List Int) (a1 : Int) : impl_BitsHas.b (fun r => (ret r).map e) k a0z a0 a1 = (impl_BitsHas.b ret k a0z a0 a1).map e := by
  unfold impl_BitsHas.b
  repeat' first | with_reducible refine nat_cond ?_ ?_ | with_reducible refine nat_bind fun _ => ?_ | rfl
theorem impl_BitsHas.eq (k : Nat) (a0z : Bool) (a0 : List Int) (a1 : Int) : answer Try.prog impl_BitsHas.Cs 100000 impl_BitsHas.cuts [] Try.f190 (k + 1) [.v (.nums 5 .u8 a0z a0), .v (.int .i64 a1)] = (impl_BitsHas.f (k + 1) a0z a0 a1).map impl_BitsHas.enc := by
  refine (impl_BitsHas.s k a0z a0 a1).trans (Eq.trans ?_ (impl_BitsHas.b_nat impl_BitsHas.enc some k a0z a0 a1))
  simp only [Option.map_some]
theorem impl_BitsHas.sound (k : Nat) : SoundF Try.prog 190 (fun a => (impl_BitsHas.ans k a).val) := by
  refine sound_plain (fun args res h => ?_) (fun t n => rfl)
  unfold impl_BitsHas.ans at h
  dsimp only at h
  split at h
  · cases k with
    | zero => cases h
    | succ k =>
      unfold Ans.val at h
      rw [← impl_BitsHas.eq] at h
      exact answer_sound mixed Try.func190 _ _ _ (k + 1) (fun j _ => tab_sound (tab_cons (impl_within.sound j) (tab_nil))) _ _ h
  · exact (Ans.no_val h).elim

/-! loop.example/g00790/impl.BitsList -/
def impl_BitsList.b {R : Type} (ret : Bool × List Int → Option R) (j0 : Bool → (List Int) → (List Int) → Int → Int → Option R) (k : Nat) (a0z : Bool) (a0 : List Int) : Option R :=
  j0 a0z a0 ([] : List Int) (RowKit.wrap64 ((8 : Int) * ((a0).length : Int))) 0
def impl_BitsList.l0b {R : Type} (ret : Bool × List Int → Option R) (j0 : Bool → (List Int) → (List Int) → Int → Int → Option R) (k : Nat) (x0z : Bool) (x0 : List Int) (x3 : List Int) (x8 : Int) (x9 : Int) : Option R :=
  cond (decide (x9 < x8)) ((impl_BitsHas.f k x0z x0 x9).bind fun t0 => cond t0 (cond (decide ((x3).length + 1 < 17592186044416)) (j0 x0z x0 (x3 ++ ([x9] : List Int)) x8 (RowKit.wrap64 (x9 + 1))) (none)) (j0 x0z x0 x3 x8 (RowKit.wrap64 (x9 + 1)))) (ret (false, x3))
def impl_BitsList.l0 : Nat → Bool → (List Int) → (List Int) → Int → Int → Option (Bool × List Int)
  | 0, _, _, _, _, _ => none
  | k + 1, x0z, x0, x3, x8, x9 => impl_BitsList.l0b some (impl_BitsList.l0 k) k x0z x0 x3 x8 x9
def impl_BitsList.f : Nat → Bool → (List Int) → Option (Bool × List Int)
  | 0, _, _ => none
  | k + 1, a0z, a0 => impl_BitsList.b some (impl_BitsList.l0 k) k a0z a0
def impl_BitsList.enc (r : Bool × List Int) : Res := ⟨[.vals false [((.nums 3 .i64 r.1 r.2), true)]], []⟩
def impl_BitsList.ans (k : Nat) : List Arg → Ans
  | [.v (.nums 5 .u8 a0z a0)] => ⟨impl_BitsList.f k a0z a0, impl_BitsList.enc⟩
  | _ => Ans.no
def impl_BitsList.Cs (k : Nat) : CallSem := tab [(190, impl_BitsHas.ans k)]
def impl_BitsList.cuts : List (Nat × Keep) := [(58, ⟨[(0, some []), (3, none), (8, some []), (9, some [])], []⟩)]
noncomputable def impl_BitsList.K0 : List Fr := framesAt [true, true, false, true, false] (bodyOf Try.f140 impl_BitsList.cuts) []
def impl_BitsList.N0 (x0z : Bool) (x0 : List Int) (x3 : List Int) (x8 : Int) (x9 : Int) : St := stOf 21 21 1 [(0, .val ⟨(.nums 5 .u8 x0z x0), [], false, none⟩), (3, .val ⟨(.nums 3 .i64 false x3), [.l 3 0], true, some (.l 3 0)⟩), (8, .val (V.s (.int .i64 x8))), (9, .val (V.s (.int .i64 x9)))] []
theorem impl_BitsList.s (k : Nat) (a0z : Bool) (a0 : List Int) : answer Try.prog impl_BitsList.Cs 100000 impl_BitsList.cuts [] Try.f140 (k + 1) [.v (.nums 5 .u8 a0z a0)] = impl_BitsList.b (fun r => some (impl_BitsList.enc r)) (fun x0z x0 x3 x8 x9 => rounds Try.prog impl_BitsList.Cs (finish Try.prog [] Try.f140 [.v (.nums 5 .u8 a0z a0)]) 100000 k impl_BitsList.K0 (impl_BitsList.N0 x0z x0 x3 x8 x9)) k a0z a0 := by kernel_rfl
theorem impl_BitsList.s0 (k : Nat) (G : List Fr → St → Option Res) (a0z : Bool) (a0 : List Int) (yx0z : Bool) (yx0 : List Int) (yx3 : List Int) (yx8 : Int) (yx9 : Int) : resume Try.prog (impl_BitsList.Cs k) G (finish Try.prog [] Try.f140 [.v (.nums 5 .u8 a0z a0)]) 100000 impl_BitsList.K0 (impl_BitsList.N0 yx0z yx0 yx3 yx8 yx9) = impl_BitsList.l0b (fun r => some (impl_BitsList.enc r)) (fun x0z x0 x3 x8 x9 => G impl_BitsList.K0 (impl_BitsList.N0 x0z x0 x3 x8 x9)) k yx0z yx0 yx3 yx8 yx9 := by kernel_rfl
theorem impl_BitsList.b_nat {R R' : Type} (e : R → R') (ret : Bool × List Int → Option R) (j0 : Bool → (List Int) → (List Int) → Int → Int → Option R) (k : Nat) (a0z : Bool) (a0 : List Int) : impl_BitsList.b (fun r => (ret r).map e) (fun x0z x0 x3 x8 x9 => (j0 x0z x0 x3 x8 x9).map e) k a0z a0 = (impl_BitsList.b ret j0 k a0z a0).map e := by
  unfold impl_BitsList.b
  repeat' first | with_reducible refine nat_cond ?_ ?_ | with_reducible refine nat_bind fun _ => ?_ | rfl
theorem impl_BitsList.l0b_nat {R R' : Type} (e : R → R') (ret : Bool × List Int → Option R) (j0 : Bool → (List Int) → (List Int) → Int → Int → Option R) (k : Nat) (x0z : Bool) (x0 : List Int) (x3 : List Int) (x8 : Int) (x9 : Int) : impl_BitsList.l0b (fun r => (ret r).map e) (fun x0z x0 x3 x8 x9 => (j0 x0z x0 x3 x8 x9).map e) k x0z x0 x3 x8 x9 = (impl_BitsList.l0b ret j0 k x0z x0 x3 x8 x9).map e := by
  unfold impl_BitsList.l0b
  repeat' first | with_reducible refine nat_cond ?_ ?_ | with_reducible refine nat_bind fun _ => ?_ | rfl
theorem impl_BitsList.rounds_eq (a0z : Bool) (a0 : List Int) : ∀ k, (∀ (x0z : Bool) (x0 : List Int) (x3 : List Int) (x8 : Int) (x9 : Int), rounds Try.prog impl_BitsList.Cs (finish Try.prog [] Try.f140 [.v (.nums 5 .u8 a0z a0)]) 100000 k impl_BitsList.K0 (impl_BitsList.N0 x0z x0 x3 x8 x9) = (impl_BitsList.l0 k x0z x0 x3 x8 x9).map impl_BitsList.enc)
  | 0 => fun _ _ _ _ _ => rfl
  | k + 1 => by
    have ih := impl_BitsList.rounds_eq a0z a0 k
    refine fun _ _ _ _ _ => ?_
    · refine (impl_BitsList.s0 k _ a0z a0 _ _ _ _ _).trans (Eq.trans ?_ (impl_BitsList.l0b_nat impl_BitsList.enc some (impl_BitsList.l0 k) k _ _ _ _ _))
      simp only [ih, Option.map_some]
theorem impl_BitsList.eq (k : Nat) (a0z : Bool) (a0 : List Int) : answer Try.prog impl_BitsList.Cs 100000 impl_BitsList.cuts [] Try.f140 (k + 1) [.v (.nums 5 .u8 a0z a0)] = (impl_BitsList.f (k + 1) a0z a0).map impl_BitsList.enc := by
  have ih := impl_BitsList.rounds_eq a0z a0 k
  refine (impl_BitsList.s k a0z a0).trans (Eq.trans ?_ (impl_BitsList.b_nat impl_BitsList.enc some (impl_BitsList.l0 k) k a0z a0))
  simp only [ih, Option.map_some]
theorem impl_BitsList.sound (k : Nat) : SoundF Try.prog 140 (fun a => (impl_BitsList.ans k a).val) := by
  refine sound_plain (fun args res h => ?_) (fun t n => rfl)
  unfold impl_BitsList.ans at h
  dsimp only at h
  split at h
  · cases k with
    | zero => cases h
    | succ k =>
      unfold Ans.val at h
      rw [← impl_BitsList.eq] at h
      exact answer_sound mixed Try.func140 _ _ _ (k + 1) (fun j _ => tab_sound (tab_cons (impl_BitsHas.sound j) (tab_nil))) _ _ h
  · exact (Ans.no_val h).elim

/-! loop.example/g00790/impl.BitsOk -/
def impl_BitsOk.b {R : Type} (ret : Bool → Option R) (j0 : Int → Bool → (List Int) → Int → Int → Option R) (k : Nat) (a0z : Bool) (a0 : List Int) (a1 : Int) : Option R :=
  (impl_within.f k a1 1 10).bind fun t0 => cond (!t0) (ret false) ((impl_BitsSize.f k a1).bind fun t1 => cond (!(decide (((a0).length : Int) = t1))) (ret false) ((impl_BitsList.f k a0z a0).bind fun t2 => j0 a1 t2.1 t2.2 ((t2.2).length : Int) 0))
def impl_BitsOk.l0b {R : Type} (ret : Bool → Option R) (j0 : Int → Bool → (List Int) → Int → Int → Option R) (k : Nat) (x1 : Int) (x18z : Bool) (x18 : List Int) (x19 : Int) (x20 : Int) : Option R :=
  cond (decide (x20 < x19)) (cond (decide ((0 : Int) ≤ x20)) (cond (decide (x20 < ((x18).length : Int))) (cond (decide ((rdI x18 x20) ≥ x1)) (ret false) (j0 x1 x18z x18 x19 (RowKit.wrap64 (x20 + 1)))) (none)) (none)) (ret true)
def impl_BitsOk.l0 : Nat → Int → Bool → (List Int) → Int → Int → Option Bool
  | 0, _, _, _, _, _ => none
  | k + 1, x1, x18z, x18, x19, x20 => impl_BitsOk.l0b some (impl_BitsOk.l0 k) k x1 x18z x18 x19 x20
def impl_BitsOk.f : Nat → Bool → (List Int) → Int → Option Bool
  | 0, _, _, _ => none
  | k + 1, a0z, a0, a1 => impl_BitsOk.b some (impl_BitsOk.l0 k) k a0z a0 a1
def impl_BitsOk.enc (r : Bool) : Res := ⟨[.vals false [((.bool r), true)]], []⟩
def impl_BitsOk.ans (k : Nat) : List Arg → Ans
  | [.v (.nums 5 .u8 a0z a0), .v (.int .i64 a1)] => ⟨impl_BitsOk.f k a0z a0 a1, impl_BitsOk.enc⟩
  | _ => Ans.no
def impl_BitsOk.Cs (k : Nat) : CallSem := tab [(126, impl_within.ans k), (189, impl_BitsSize.ans k), (140, impl_BitsList.ans k)]
def impl_BitsOk.cuts : List (Nat × Keep) := [(58, ⟨[(1, some []), (18, none), (19, some []), (20, some [])], []⟩)]
noncomputable def impl_BitsOk.K0 : List Fr := framesAt [true, true, false, true, false] (bodyOf Try.f139 impl_BitsOk.cuts) []
def impl_BitsOk.N0 (x1 : Int) (x18z : Bool) (x18 : List Int) (x19 : Int) (x20 : Int) : St := stOf 28 28 2 [(1, .val (V.s (.int .i64 x1))), (18, .val ⟨(.nums 3 .i64 x18z x18), [.l 18 0], true, some (.l 18 0)⟩), (19, .val (V.s (.int .i64 x19))), (20, .val (V.s (.int .i64 x20)))] []
theorem impl_BitsOk.s (k : Nat) (a0z : Bool) (a0 : List Int) (a1 : Int) : answer Try.prog impl_BitsOk.Cs 100000 impl_BitsOk.cuts [] Try.f139 (k + 1) [.v (.nums 5 .u8 a0z a0), .v (.int .i64 a1)] = impl_BitsOk.b (fun r => some (impl_BitsOk.enc r)) (fun x1 x18z x18 x19 x20 => rounds Try.prog impl_BitsOk.Cs (finish Try.prog [] Try.f139 [.v (.nums 5 .u8 a0z a0), .v (.int .i64 a1)]) 100000 k impl_BitsOk.K0 (impl_BitsOk.N0 x1 x18z x18 x19 x20)) k a0z a0 a1 := by kernel_rfl
theorem impl_BitsOk.s0 (k : Nat) (G : List Fr → St → Option Res) (a0z : Bool) (a0 : List Int) (a1 : Int) (yx1 : Int) (yx18z : Bool) (yx18 : List Int) (yx19 : Int) (yx20 : Int) : resume Try.prog (impl_BitsOk.Cs k) G (finish Try.prog [] Try.f139 [.v (.nums 5 .u8 a0z a0), .v (.int .i64 a1)]) 100000 impl_BitsOk.K0 (impl_BitsOk.N0 yx1 yx18z yx18 yx19 yx20) = impl_BitsOk.l0b (fun r => some (impl_BitsOk.enc r)) (fun x1 x18z x18 x19 x20 => G impl_BitsOk.K0 (impl_BitsOk.N0 x1 x18z x18 x19 x20)) k yx1 yx18z yx18 yx19 yx20 := by kernel_rfl
theorem impl_BitsOk.b_nat {R R' : Type} (e : R → R') (ret : Bool → Option R) (j0 : Int → Bool → (List Int) → Int → Int → Option R) (k : Nat) (a0z : Bool) (a0 : List Int) (a1 : Int) : impl_BitsOk.b (fun r => (ret r).map e) (fun x1 x18z x18 x19 x20 => (j0 x1 x18z x18 x19 x20).map e) k a0z a0 a1 = (impl_BitsOk.b ret j0 k a0z a0 a1).map e := by
  unfold impl_BitsOk.b
  repeat' first | with_reducible refine nat_cond ?_ ?_ | with_reducible refine nat_bind fun _ => ?_ | rfl
theorem impl_BitsOk.l0b_nat {R R' : Type} (e : R → R') (ret : Bool → Option R) (j0 : Int → Bool → (List Int) → Int → Int → Option R) (k : Nat) (x1 : Int) (x18z : Bool) (x18 : List Int) (x19 : Int) (x20 : Int) : impl_BitsOk.l0b (fun r => (ret r).map e) (fun x1 x18z x18 x19 x20 => (j0 x1 x18z x18 x19 x20).map e) k x1 x18z x18 x19 x20 = (impl_BitsOk.l0b ret j0 k x1 x18z x18 x19 x20).map e := by
  unfold impl_BitsOk.l0b
  repeat' first | with_reducible refine nat_cond ?_ ?_ | with_reducible refine nat_bind fun _ => ?_ | rfl
theorem impl_BitsOk.rounds_eq (a0z : Bool) (a0 : List Int) (a1 : Int) : ∀ k, (∀ (x1 : Int) (x18z : Bool) (x18 : List Int) (x19 : Int) (x20 : Int), rounds Try.prog impl_BitsOk.Cs (finish Try.prog [] Try.f139 [.v (.nums 5 .u8 a0z a0), .v (.int .i64 a1)]) 100000 k impl_BitsOk.K0 (impl_BitsOk.N0 x1 x18z x18 x19 x20) = (impl_BitsOk.l0 k x1 x18z x18 x19 x20).map impl_BitsOk.enc)
  | 0 => fun _ _ _ _ _ => rfl
  | k + 1 => by
    have ih := impl_BitsOk.rounds_eq a0z a0 a1 k
    refine fun _ _ _ _ _ => ?_
    · refine (impl_BitsOk.s0 k _ a0z a0 a1 _ _ _ _ _).trans (Eq.trans ?_ (impl_BitsOk.l0b_nat impl_BitsOk.enc some (impl_BitsOk.l0 k) k _ _ _ _ _))
      simp only [ih, Option.map_some]
theorem impl_BitsOk.eq (k : Nat) (a0z : Bool) (a0 : List Int) (a1 : Int) : answer Try.prog impl_BitsOk.Cs 100000 impl_BitsOk.cuts [] Try.f139 (k + 1) [.v (.nums 5 .u8 a0z a0), .v (.int .i64 a1)] = (impl_BitsOk.f (k + 1) a0z a0 a1).map impl_BitsOk.enc := by
  have ih := impl_BitsOk.rounds_eq a0z a0 a1 k
  refine (impl_BitsOk.s k a0z a0 a1).trans (Eq.trans ?_ (impl_BitsOk.b_nat impl_BitsOk.enc some (impl_BitsOk.l0 k) k a0z a0 a1))
  simp only [ih, Option.map_some]
theorem impl_BitsOk.sound (k : Nat) : SoundF Try.prog 139 (fun a => (impl_BitsOk.ans k a).val) := by
  refine sound_plain (fun args res h => ?_) (fun t n => rfl)
  unfold impl_BitsOk.ans at h
  dsimp only at h
  split at h
  · cases k with
    | zero => cases h
    | succ k =>
      unfold Ans.val at h
      rw [← impl_BitsOk.eq] at h
      exact answer_sound mixed Try.func139 _ _ _ (k + 1) (fun j _ => tab_sound (tab_cons (impl_within.sound j) (tab_cons (impl_BitsSize.sound j) (tab_cons (impl_BitsList.sound j) (tab_nil))))) _ _ h
  · exact (Ans.no_val h).elim

/-! math/bits.OnesCount8 -/
def bits_OnesCount8.b {R : Type} (ret : Int → Option R) (k : Nat) (a0 : Int) : Option R :=
  cond (decide ((0 : Int) ≤ a0)) (cond (decide (a0 < (((⟨#[0, 1, 1, 2, 1, 2, 2, 3, 1, 2, 2, 3, 2, 3, 3, 4, 1, 2, 2, 3, 2, 3, 3, 4, 2, 3, 3, 4, 3, 4, 4, 5, 1, 2, 2, 3, 2, 3, 3, 4, 2, 3, 3, 4, 3, 4, 4, 5, 2, 3, 3, 4, 3, 4, 4, 5, 3, 4, 4, 5, 4, 5, 5, 6, 1, 2, 2, 3, 2, 3, 3, 4, 2, 3, 3, 4, 3, 4, 4, 5, 2, 3, 3, 4, 3, 4, 4, 5, 3, 4, 4, 5, 4, 5, 5, 6, 2, 3, 3, 4, 3, 4, 4, 5, 3, 4, 4, 5, 4, 5, 5, 6, 3, 4, 4, 5, 4, 5, 5, 6, 4, 5, 5, 6, 5, 6, 6, 7, 1, 2, 2, 3, 2, 3, 3, 4, 2, 3, 3, 4, 3, 4, 4, 5, 2, 3, 3, 4, 3, 4, 4, 5, 3, 4, 4, 5, 4, 5, 5, 6, 2, 3, 3, 4, 3, 4, 4, 5, 3, 4, 4, 5, 4, 5, 5, 6, 3, 4, 4, 5, 4, 5, 5, 6, 4, 5, 5, 6, 5, 6, 6, 7, 2, 3, 3, 4, 3, 4, 4, 5, 3, 4, 4, 5, 4, 5, 5, 6, 3, 4, 4, 5, 4, 5, 5, 6, 4, 5, 5, 6, 5, 6, 6, 7, 3, 4, 4, 5, 4, 5, 5, 6, 4, 5, 5, 6, 5, 6, 6, 7, 4, 5, 5, 6, 5, 6, 6, 7, 5, 6, 6, 7, 6, 7, 7, 8]⟩ : ByteArray)).size : Int))) (ret (RowKit.wrap64 ((btI (⟨#[0, 1, 1, 2, 1, 2, 2, 3, 1, 2, 2, 3, 2, 3, 3, 4, 1, 2, 2, 3, 2, 3, 3, 4, 2, 3, 3, 4, 3, 4, 4, 5, 1, 2, 2, 3, 2, 3, 3, 4, 2, 3, 3, 4, 3, 4, 4, 5, 2, 3, 3, 4, 3, 4, 4, 5, 3, 4, 4, 5, 4, 5, 5, 6, 1, 2, 2, 3, 2, 3, 3, 4, 2, 3, 3, 4, 3, 4, 4, 5, 2, 3, 3, 4, 3, 4, 4, 5, 3, 4, 4, 5, 4, 5, 5, 6, 2, 3, 3, 4, 3, 4, 4, 5, 3, 4, 4, 5, 4, 5, 5, 6, 3, 4, 4, 5, 4, 5, 5, 6, 4, 5, 5, 6, 5, 6, 6, 7, 1, 2, 2, 3, 2, 3, 3, 4, 2, 3, 3, 4, 3, 4, 4, 5, 2, 3, 3, 4, 3, 4, 4, 5, 3, 4, 4, 5, 4, 5, 5, 6, 2, 3, 3, 4, 3, 4, 4, 5, 3, 4, 4, 5, 4, 5, 5, 6, 3, 4, 4, 5, 4, 5, 5, 6, 4, 5, 5, 6, 5, 6, 6, 7, 2, 3, 3, 4, 3, 4, 4, 5, 3, 4, 4, 5, 4, 5, 5, 6, 3, 4, 4, 5, 4, 5, 5, 6, 4, 5, 5, 6, 5, 6, 6, 7, 3, 4, 4, 5, 4, 5, 5, 6, 4, 5, 5, 6, 5, 6, 6, 7, 4, 5, 5, 6, 5, 6, 6, 7, 5, 6, 6, 7, 6, 7, 7, 8]⟩ : ByteArray) a0)))) (none)) (none)
def bits_OnesCount8.f : Nat → Int → Option Int
  | 0, _ => none
  | k + 1, a0 => bits_OnesCount8.b some k a0
def bits_OnesCount8.enc (r : Int) : Res := ⟨[.vals false [((.int .i64 r), true)]], []⟩
def bits_OnesCount8.ans (k : Nat) : List Arg → Ans
  | [.v (.int .u8 a0)] => ⟨bits_OnesCount8.f k a0, bits_OnesCount8.enc⟩
  | _ => Ans.no
def bits_OnesCount8.Cs (k : Nat) : CallSem := tab []
def bits_OnesCount8.cuts : List (Nat × Keep) := []
theorem bits_OnesCount8.s (k : Nat) (a0 : Int) : answer Try.prog bits_OnesCount8.Cs 100000 bits_OnesCount8.cuts [] Try.f205 (k + 1) [.v (.int .u8 a0)] = bits_OnesCount8.b (fun r => some (bits_OnesCount8.enc r)) k a0 := by kernel_rfl
theorem bits_OnesCount8.b_nat {R R' : Type} (e : R → R') (ret : Int → Option R) (k : Nat) (a0 : Int) : bits_OnesCount8.b (fun r => (ret r).map e) k a0 = (bits_OnesCount8.b ret k a0).map e := by
  unfold bits_OnesCount8.b
  repeat' first | with_reducible refine nat_cond ?_ ?_ | with_reducible refine nat_bind fun _ => ?_ | rfl
theorem bits_OnesCount8.eq (k : Nat) (a0 : Int) : answer Try.prog bits_OnesCount8.Cs 100000 bits_OnesCount8.cuts [] Try.f205 (k + 1) [.v (.int .u8 a0)] = (bits_OnesCount8.f (k + 1) a0).map bits_OnesCount8.enc := by
  refine (bits_OnesCount8.s k a0).trans (Eq.trans ?_ (bits_OnesCount8.b_nat bits_OnesCount8.enc some k a0))
  simp only [Option.map_some]
theorem bits_OnesCount8.sound (k : Nat) : SoundF Try.prog 205 (fun a => (bits_OnesCount8.ans k a).val) := by
  refine sound_plain (fun args res h => ?_) (fun t n => rfl)
  unfold bits_OnesCount8.ans at h
  dsimp only at h
  split at h
  · cases k with
    | zero => cases h
    | succ k =>
      unfold Ans.val at h
      rw [← bits_OnesCount8.eq] at h
      exact answer_sound mixed Try.func205 _ _ _ (k + 1) (fun j _ => tab_sound (tab_nil)) _ _ h
  · exact (Ans.no_val h).elim

/-! loop.example/g00790/impl.BitsCount -/
def impl_BitsCount.b {R : Type} (ret : Int → Option R) (j0 : Int → Bool → (List Int) → Int → Int → Option R) (k : Nat) (a0z : Bool) (a0 : List Int) : Option R :=
  j0 0 a0z a0 ((a0).length : Int) 0
def impl_BitsCount.l0b {R : Type} (ret : Int → Option R) (j0 : Int → Bool → (List Int) → Int → Int → Option R) (k : Nat) (x3 : Int) (x6z : Bool) (x6 : List Int) (x7 : Int) (x8 : Int) : Option R :=
  cond (decide (x8 < x7)) (cond (decide ((0 : Int) ≤ x8)) (cond (decide (x8 < ((x6).length : Int))) ((bits_OnesCount8.f k (rdI x6 x8)).bind fun t0 => j0 (RowKit.wrap64 (x3 + t0)) x6z x6 x7 (RowKit.wrap64 (x8 + 1))) (none)) (none)) (ret x3)
def impl_BitsCount.l0 : Nat → Int → Bool → (List Int) → Int → Int → Option Int
  | 0, _, _, _, _, _ => none
  | k + 1, x3, x6z, x6, x7, x8 => impl_BitsCount.l0b some (impl_BitsCount.l0 k) k x3 x6z x6 x7 x8
def impl_BitsCount.f : Nat → Bool → (List Int) → Option Int
  | 0, _, _ => none
  | k + 1, a0z, a0 => impl_BitsCount.b some (impl_BitsCount.l0 k) k a0z a0
def impl_BitsCount.enc (r : Int) : Res := ⟨[.vals false [((.int .i64 r), true)]], []⟩
def impl_BitsCount.ans (k : Nat) : List Arg → Ans
  | [.v (.nums 5 .u8 a0z a0)] => ⟨impl_BitsCount.f k a0z a0, impl_BitsCount.enc⟩
  | _ => Ans.no
def impl_BitsCount.Cs (k : Nat) : CallSem := tab [(205, bits_OnesCount8.ans k)]
def impl_BitsCount.cuts : List (Nat × Keep) := [(58, ⟨[(3, some []), (6, some []), (7, some []), (8, some [])], []⟩)]
noncomputable def impl_BitsCount.K0 : List Fr := framesAt [true, true, false, true, false] (bodyOf Try.f172 impl_BitsCount.cuts) []
def impl_BitsCount.N0 (x3 : Int) (x6z : Bool) (x6 : List Int) (x7 : Int) (x8 : Int) : St := stOf 18 18 1 [(3, .val (V.s (.int .i64 x3))), (6, .val ⟨(.nums 5 .u8 x6z x6), [], false, none⟩), (7, .val (V.s (.int .i64 x7))), (8, .val (V.s (.int .i64 x8)))] []
theorem impl_BitsCount.s (k : Nat) (a0z : Bool) (a0 : List Int) : answer Try.prog impl_BitsCount.Cs 100000 impl_BitsCount.cuts [] Try.f172 (k + 1) [.v (.nums 5 .u8 a0z a0)] = impl_BitsCount.b (fun r => some (impl_BitsCount.enc r)) (fun x3 x6z x6 x7 x8 => rounds Try.prog impl_BitsCount.Cs (finish Try.prog [] Try.f172 [.v (.nums 5 .u8 a0z a0)]) 100000 k impl_BitsCount.K0 (impl_BitsCount.N0 x3 x6z x6 x7 x8)) k a0z a0 := by kernel_rfl
theorem impl_BitsCount.s0 (k : Nat) (G : List Fr → St → Option Res) (a0z : Bool) (a0 : List Int) (yx3 : Int) (yx6z : Bool) (yx6 : List Int) (yx7 : Int) (yx8 : Int) : resume Try.prog (impl_BitsCount.Cs k) G (finish Try.prog [] Try.f172 [.v (.nums 5 .u8 a0z a0)]) 100000 impl_BitsCount.K0 (impl_BitsCount.N0 yx3 yx6z yx6 yx7 yx8) = impl_BitsCount.l0b (fun r => some (impl_BitsCount.enc r)) (fun x3 x6z x6 x7 x8 => G impl_BitsCount.K0 (impl_BitsCount.N0 x3 x6z x6 x7 x8)) k yx3 yx6z yx6 yx7 yx8 := by kernel_rfl
theorem impl_BitsCount.b_nat {R R' : Type} (e : R → R') (ret : Int → Option R) (j0 : Int → Bool → (List Int) → Int → Int → Option R) (k : Nat) (a0z : Bool) (a0 : List Int) : impl_BitsCount.b (fun r => (ret r).map e) (fun x3 x6z x6 x7 x8 => (j0 x3 x6z x6 x7 x8).map e) k a0z a0 = (impl_BitsCount.b ret j0 k a0z a0).map e := by
  unfold impl_BitsCount.b
  repeat' first | with_reducible refine nat_cond ?_ ?_ | with_reducible refine nat_bind fun _ => ?_ | rfl
theorem impl_BitsCount.l0b_nat {R R' : Type} (e : R → R') (ret : Int → Option R) (j0 : Int → Bool → (List Int) → Int → Int → Option R) (k : Nat) (x3 : Int) (x6z : Bool) (x6 : List Int) (x7 : Int) (x8 : Int) : impl_BitsCount.l0b (fun r => (ret r).map e) (fun x3 x6z x6 x7 x8 => (j0 x3 x6z x6 x7 x8).map e) k x3 x6z x6 x7 x8 = (impl_BitsCount.l0b ret j0 k x3 x6z x6 x7 x8).map e := by
  unfold impl_BitsCount.l0b
  repeat' first | with_reducible refine nat_cond ?_ ?_ | with_reducible refine nat_bind fun _ => ?_ | rfl
theorem impl_BitsCount.rounds_eq (a0z : Bool) (a0 : List Int) : ∀ k, (∀ (x3 : Int) (x6z : Bool) (x6 : List Int) (x7 : Int) (x8 : Int), rounds Try.prog impl_BitsCount.Cs (finish Try.prog [] Try.f172 [.v (.nums 5 .u8 a0z a0)]) 100000 k impl_BitsCount.K0 (impl_BitsCount.N0 x3 x6z x6 x7 x8) = (impl_BitsCount.l0 k x3 x6z x6 x7 x8).map impl_BitsCount.enc)
  | 0 => fun _ _ _ _ _ => rfl
  | k + 1 => by
    have ih := impl_BitsCount.rounds_eq a0z a0 k
    refine fun _ _ _ _ _ => ?_
    · refine (impl_BitsCount.s0 k _ a0z a0 _ _ _ _ _).trans (Eq.trans ?_ (impl_BitsCount.l0b_nat impl_BitsCount.enc some (impl_BitsCount.l0 k) k _ _ _ _ _))
      simp only [ih, Option.map_some]
theorem impl_BitsCount.eq (k : Nat) (a0z : Bool) (a0 : List Int) : answer Try.prog impl_BitsCount.Cs 100000 impl_BitsCount.cuts [] Try.f172 (k + 1) [.v (.nums 5 .u8 a0z a0)] = (impl_BitsCount.f (k + 1) a0z a0).map impl_BitsCount.enc := by
  have ih := impl_BitsCount.rounds_eq a0z a0 k
  refine (impl_BitsCount.s k a0z a0).trans (Eq.trans ?_ (impl_BitsCount.b_nat impl_BitsCount.enc some (impl_BitsCount.l0 k) k a0z a0))
  simp only [ih, Option.map_some]
theorem impl_BitsCount.sound (k : Nat) : SoundF Try.prog 172 (fun a => (impl_BitsCount.ans k a).val) := by
  refine sound_plain (fun args res h => ?_) (fun t n => rfl)
  unfold impl_BitsCount.ans at h
  dsimp only at h
  split at h
  · cases k with
    | zero => cases h
    | succ k =>
      unfold Ans.val at h
      rw [← impl_BitsCount.eq] at h
      exact answer_sound mixed Try.func172 _ _ _ (k + 1) (fun j _ => tab_sound (tab_cons (bits_OnesCount8.sound j) (tab_nil))) _ _ h
  · exact (Ans.no_val h).elim

/-! loop.example/g00790/impl.QcOk -/
def impl_QcOk.b {R : Type} (ret : Bool → Option R) (k : Nat) (a0_0 : Int) (a0_1 : Int) (a0_2 : Int) (a0_3 : Int) (a0_4 : Int) (a1_0 : Int) (a1_1 : Int) (a1_2z : Bool) (a1_2 : List Int) (a1_3z : Bool) (a1_3 : List Int) (a1_4z : Bool) (a1_4 : List T) : Option R :=
  (impl_LimitsOk.f k a0_0 a0_1 a0_2 a0_3 a0_4).bind fun t0 => cond t0 ((impl_isNum.f k a1_0).bind fun t1 => cond t1 ((impl_isNum.f k a1_1).bind fun t2 => cond t2 ((impl_areHashes.f k false ([(.nums 5 .u8 a1_2z a1_2)] : List T)).bind fun t3 => cond t3 ((impl_BitsOk.f k a1_3z a1_3 a0_0).bind fun t4 => cond t4 ((impl_BitsCount.f k a1_3z a1_3).bind fun t5 => cond (decide (((a1_4).length : Int) = t5)) ((impl_areHashes.f k a1_4z a1_4).bind fun t6 => ret t6) (ret false)) (ret false)) (ret false)) (ret false)) (ret false)) (ret false)
def impl_QcOk.f : Nat → Int → Int → Int → Int → Int → Int → Int → Bool → (List Int) → Bool → (List Int) → Bool → (List T) → Option Bool
  | 0, _, _, _, _, _, _, _, _, _, _, _, _, _ => none
  | k + 1, a0_0, a0_1, a0_2, a0_3, a0_4, a1_0, a1_1, a1_2z, a1_2, a1_3z, a1_3, a1_4z, a1_4 => impl_QcOk.b some k a0_0 a0_1 a0_2 a0_3 a0_4 a1_0 a1_1 a1_2z a1_2 a1_3z a1_3 a1_4z a1_4
def impl_QcOk.enc (r : Bool) : Res := ⟨[.vals false [((.bool r), true)]], []⟩
def impl_QcOk.ans (k : Nat) : List Arg → Ans
  | [.v (.agg [(.int .i64 a0_0), (.int .i64 a0_1), (.int .i64 a0_2), (.int .i64 a0_3), (.int .i64 a0_4)]), .v (.agg [(.int .i64 a1_0), (.int .i64 a1_1), (.nums 5 .u8 a1_2z a1_2), (.nums 5 .u8 a1_3z a1_3), (.sl 45 a1_4z a1_4)])] => ⟨impl_QcOk.f k a0_0 a0_1 a0_2 a0_3 a0_4 a1_0 a1_1 a1_2z a1_2 a1_3z a1_3 a1_4z a1_4, impl_QcOk.enc⟩
  | _ => Ans.no
def impl_QcOk.Cs (k : Nat) : CallSem := tab [(86, impl_LimitsOk.ans k), (161, impl_isNum.ans k), (162, impl_areHashes.ans k), (139, impl_BitsOk.ans k), (172, impl_BitsCount.ans k)]
def impl_QcOk.cuts : List (Nat × Keep) := []
theorem impl_QcOk.s (k : Nat) (a0_0 : Int) (a0_1 : Int) (a0_2 : Int) (a0_3 : Int) (a0_4 : Int) (a1_0 : Int) (a1_1 : Int) (a1_2z : Bool) (a1_2 : List Int) (a1_3z : Bool) (a1_3 : List Int) (a1_4z : Bool) (a1_4 : List T) : answer Try.prog impl_QcOk.Cs 100000 impl_QcOk.cuts [] Try.f105 (k + 1) [.v (.agg [(.int .i64 a0_0), (.int .i64 a0_1), (.int .i64 a0_2), (.int .i64 a0_3), (.int .i64 a0_4)]), .v (.agg [(.int .i64 a1_0), (.int .i64 a1_1), (.nums 5 .u8 a1_2z a1_2), (.nums 5 .u8 a1_3z a1_3), (.sl 45 a1_4z a1_4)])] = impl_QcOk.b (fun r => some (impl_QcOk.enc r)) k a0_0 a0_1 a0_2 a0_3 a0_4 a1_0 a1_1 a1_2z a1_2 a1_3z a1_3 a1_4z a1_4 := by kernel_rfl
theorem impl_QcOk.b_nat {R R' : Type} (e : R → R') (ret : Bool → Option R) (k : Nat) (a0_0 : Int) (a0_1 : Int) (a0_2 : Int) (a0_3 : Int) (a0_4 : Int) (a1_0 : Int) (a1_1 : Int) (a1_2z : Bool) (a1_2 : List Int) (a1_3z : Bool) (a1_3 : List Int) (a1_4z : Bool) (a1_4 : List T) : impl_QcOk.b (fun r => (ret r).map e) k a0_0 a0_1 a0_2 a0_3 a0_4 a1_0 a1_1 a1_2z a1_2 a1_3z a1_3 a1_4z a1_4 = (impl_QcOk.b ret k a0_0 a0_1 a0_2 a0_3 a0_4 a1_0 a1_1 a1_2z a1_2 a1_3z a1_3 a1_4z a1_4).map e := by
  unfold impl_QcOk.b
  repeat' first | with_reducible refine nat_cond ?_ ?_ | with_reducible refine nat_bind fun _ => ?_ | rfl
theorem impl_QcOk.eq (k : Nat) (a0_0 : Int) (a0_1 : Int) (a0_2 : Int) (a0_3 : Int) (a0_4 : Int) (a1_0 : Int) (a1_1 : Int) (a1_2z : Bool) (a1_2 : List Int) (a1_3z : Bool) (a1_3 : List Int) (a1_4z : Bool) (a1_4 : List T) : answer Try.prog impl_QcOk.Cs 100000 impl_QcOk.cuts [] Try.f105 (k + 1) [.v (.agg [(.int .i64 a0_0), (.int .i64 a0_1), (.int .i64 a0_2), (.int .i64 a0_3), (.int .i64 a0_4)]), .v (.agg [(.int .i64 a1_0), (.int .i64 a1_1), (.nums 5 .u8 a1_2z a1_2), (.nums 5 .u8 a1_3z a1_3), (.sl 45 a1_4z a1_4)])] = (impl_QcOk.f (k + 1) a0_0 a0_1 a0_2 a0_3 a0_4 a1_0 a1_1 a1_2z a1_2 a1_3z a1_3 a1_4z a1_4).map impl_QcOk.enc := by
  refine (impl_QcOk.s k a0_0 a0_1 a0_2 a0_3 a0_4 a1_0 a1_1 a1_2z a1_2 a1_3z a1_3 a1_4z a1_4).trans (Eq.trans ?_ (impl_QcOk.b_nat impl_QcOk.enc some k a0_0 a0_1 a0_2 a0_3 a0_4 a1_0 a1_1 a1_2z a1_2 a1_3z a1_3 a1_4z a1_4))
  simp only [Option.map_some]
theorem impl_QcOk.sound (k : Nat) : SoundF Try.prog 105 (fun a => (impl_QcOk.ans k a).val) := by
  refine sound_plain (fun args res h => ?_) (fun t n => rfl)
  unfold impl_QcOk.ans at h
  dsimp only at h
  split at h
  · cases k with
    | zero => cases h
    | succ k =>
      unfold Ans.val at h
      rw [← impl_QcOk.eq] at h
      exact answer_sound mixed Try.func105 _ _ _ (k + 1) (fun j _ => tab_sound (tab_cons (impl_LimitsOk.sound j) (tab_cons (impl_isNum.sound j) (tab_cons (impl_areHashes.sound j) (tab_cons (impl_BitsOk.sound j) (tab_cons (impl_BitsCount.sound j) (tab_nil))))))) _ _ h
  · exact (Ans.no_val h).elim

/-! loop.example/g00790/impl.copyBytes -/
def impl_copyBytes.b {R : Type} (ret : Bool × List Int → Option R) (k : Nat) (a0z : Bool) (a0 : List Int) : Option R :=
  cond (decide (0 + (a0).length < 140737488355328)) (ret (((a0).isEmpty && false), a0)) (none)
def impl_copyBytes.f : Nat → Bool → (List Int) → Option (Bool × List Int)
  | 0, _, _ => none
  | k + 1, a0z, a0 => impl_copyBytes.b some k a0z a0
def impl_copyBytes.enc (r : Bool × List Int) : Res := ⟨[.vals false [((.nums 5 .u8 r.1 r.2), true)]], []⟩
def impl_copyBytes.ans (k : Nat) : List Arg → Ans
  | [.v (.nums 5 .u8 a0z a0)] => ⟨impl_copyBytes.f k a0z a0, impl_copyBytes.enc⟩
  | _ => Ans.no
def impl_copyBytes.Cs (k : Nat) : CallSem := tab []
def impl_copyBytes.cuts : List (Nat × Keep) := []
theorem impl_copyBytes.s (k : Nat) (a0z : Bool) (a0 : List Int) : answer Try.prog impl_copyBytes.Cs 100000 impl_copyBytes.cuts [] Try.f132 (k + 1) [.v (.nums 5 .u8 a0z a0)] = impl_copyBytes.b (fun r => some (impl_copyBytes.enc r)) k a0z a0 := by kernel_rfl
theorem impl_copyBytes.b_nat {R R' : Type} (e : R → R') (ret : Bool × List Int → Option R) (k : Nat) (a0z : Bool) (a0 : List Int) : impl_copyBytes.b (fun r => (ret r).map e) k a0z a0 = (impl_copyBytes.b ret k a0z a0).map e := by
  unfold impl_copyBytes.b
  repeat' first | with_reducible refine nat_cond ?_ ?_ | with_reducible refine nat_bind fun _ => ?_ | rfl
theorem impl_copyBytes.eq (k : Nat) (a0z : Bool) (a0 : List Int) : answer Try.prog impl_copyBytes.Cs 100000 impl_copyBytes.cuts [] Try.f132 (k + 1) [.v (.nums 5 .u8 a0z a0)] = (impl_copyBytes.f (k + 1) a0z a0).map impl_copyBytes.enc := by
  refine (impl_copyBytes.s k a0z a0).trans (Eq.trans ?_ (impl_copyBytes.b_nat impl_copyBytes.enc some k a0z a0))
  simp only [Option.map_some]
theorem impl_copyBytes.sound (k : Nat) : SoundF Try.prog 132 (fun a => (impl_copyBytes.ans k a).val) := by
  refine sound_plain (fun args res h => ?_) (fun t n => rfl)
  unfold impl_copyBytes.ans at h
  dsimp only at h
  split at h
  · cases k with
    | zero => cases h
    | succ k =>
      unfold Ans.val at h
      rw [← impl_copyBytes.eq] at h
      exact answer_sound mixed Try.func132 _ _ _ (k + 1) (fun j _ => tab_sound (tab_nil)) _ _ h
  · exact (Ans.no_val h).elim

/-! loop.example/g00790/impl.QcVotes -/
def impl_QcVotes.b {R : Type} (ret : Bool × List T → Option R) (j0 : (List T) → Bool → (List Int) → Int → Int → Int → Int → Bool → (List Int) → Bool → (List Int) → Bool → (List T) → Option R) (k : Nat) (a0_0 : Int) (a0_1 : Int) (a0_2z : Bool) (a0_2 : List Int) (a0_3z : Bool) (a0_3 : List Int) (a0_4z : Bool) (a0_4 : List T) : Option R :=
  (impl_BitsCount.f k a0_3z a0_3).bind fun t0 => cond (!(decide (((a0_4).length : Int) = t0))) (ret (true, ([] : List T))) ((impl_BitsList.f k a0_3z a0_3).bind fun t1 => j0 ([] : List T) t1.1 t1.2 ((t1.2).length : Int) 0 a0_0 a0_1 a0_2z a0_2 a0_3z a0_3 a0_4z a0_4)
def impl_QcVotes.l0b {R : Type} (ret : Bool × List T → Option R) (j0 : (List T) → Bool → (List Int) → Int → Int → Int → Int → Bool → (List Int) → Bool → (List Int) → Bool → (List T) → Option R) (k : Nat) (x3 : List T) (x16z : Bool) (x16 : List Int) (x17 : Int) (x18 : Int) (c1_0 : Int) (c1_1 : Int) (c1_2z : Bool) (c1_2 : List Int) (c1_3z : Bool) (c1_3 : List Int) (c1_4z : Bool) (c1_4 : List T) : Option R :=
  cond (decide (x18 < x17)) (cond (decide ((0 : Int) ≤ x18)) (cond (decide (x18 < ((x16).length : Int))) ((impl_copyBytes.f k c1_2z c1_2).bind fun t0 => cond (decide ((0 : Int) ≤ x18)) (cond (decide (x18 < ((c1_4).length : Int))) ((impl_copyBytes.f k (((((c1_4).getD (x18).toNat .bad).cells.getD 0 .bad)).isNil) (((((c1_4).getD (x18).toNat .bad).cells.getD 0 .bad)).toNums)).bind fun t1 => cond (decide ((x3).length + 1 < 1954687338268)) (j0 (x3 ++ ([(.agg [(.int .i64 c1_0), (.int .i64 c1_1), (.nums 5 .u8 t0.1 t0.2), (.int .i64 (rdI x16 x18)), (.nums 5 .u8 t1.1 t1.2)])] : List T)) x16z x16 x17 (RowKit.wrap64 (x18 + 1)) c1_0 c1_1 c1_2z c1_2 c1_3z c1_3 c1_4z c1_4) (none)) (none)) (none)) (none)) (none)) (ret (false, x3))
def impl_QcVotes.l0 : Nat → (List T) → Bool → (List Int) → Int → Int → Int → Int → Bool → (List Int) → Bool → (List Int) → Bool → (List T) → Option (Bool × List T)
  | 0, _, _, _, _, _, _, _, _, _, _, _, _, _ => none
  | k + 1, x3, x16z, x16, x17, x18, c1_0, c1_1, c1_2z, c1_2, c1_3z, c1_3, c1_4z, c1_4 => impl_QcVotes.l0b some (impl_QcVotes.l0 k) k x3 x16z x16 x17 x18 c1_0 c1_1 c1_2z c1_2 c1_3z c1_3 c1_4z c1_4
def impl_QcVotes.f : Nat → Int → Int → Bool → (List Int) → Bool → (List Int) → Bool → (List T) → Option (Bool × List T)
  | 0, _, _, _, _, _, _, _, _ => none
  | k + 1, a0_0, a0_1, a0_2z, a0_2, a0_3z, a0_3, a0_4z, a0_4 => impl_QcVotes.b some (impl_QcVotes.l0 k) k a0_0 a0_1 a0_2z a0_2 a0_3z a0_3 a0_4z a0_4
def impl_QcVotes.enc (r : Bool × List T) : Res := ⟨[.vals false [((.sl 93 r.1 r.2), true)]], []⟩
def impl_QcVotes.ans (k : Nat) : List Arg → Ans
  | [.v (.agg [(.int .i64 a0_0), (.int .i64 a0_1), (.nums 5 .u8 a0_2z a0_2), (.nums 5 .u8 a0_3z a0_3), (.sl 45 a0_4z a0_4)])] => ⟨impl_QcVotes.f k a0_0 a0_1 a0_2z a0_2 a0_3z a0_3 a0_4z a0_4, impl_QcVotes.enc⟩
  | _ => Ans.no
def impl_QcVotes.Cs (k : Nat) : CallSem := tab [(140, impl_BitsList.ans k), (172, impl_BitsCount.ans k), (132, impl_copyBytes.ans k)]
def impl_QcVotes.cuts : List (Nat × Keep) := [(122, ⟨[(1, some []), (3, none), (16, none), (17, some []), (18, some [])], [(1, [some [], some [], some [], some [], some []])]⟩)]
noncomputable def impl_QcVotes.K0 : List Fr := framesAt [true, true, true, false, true, false] (bodyOf Try.f106 impl_QcVotes.cuts) []
def impl_QcVotes.N0 (x3 : List T) (x16z : Bool) (x16 : List Int) (x17 : Int) (x18 : Int) (c1_0 : Int) (c1_1 : Int) (c1_2z : Bool) (c1_2 : List Int) (c1_3z : Bool) (c1_3 : List Int) (c1_4z : Bool) (c1_4 : List T) : St := stOf 43 43 1 [(1, .bp 1 0), (3, .val ⟨(.sl 93 false x3), [.l 3 0], true, some (.l 3 0)⟩), (16, .val ⟨(.nums 3 .i64 x16z x16), [.l 16 0], true, some (.l 16 0)⟩), (17, .val (V.s (.int .i64 x17))), (18, .val (V.s (.int .i64 x18)))] [(1, .cells [V.s (.int .i64 c1_0), V.s (.int .i64 c1_1), ⟨(.nums 5 .u8 c1_2z c1_2), [], false, none⟩, ⟨(.nums 5 .u8 c1_3z c1_3), [], false, none⟩, ⟨(.sl 45 c1_4z c1_4), [], false, none⟩])]
theorem impl_QcVotes.s (k : Nat) (a0_0 : Int) (a0_1 : Int) (a0_2z : Bool) (a0_2 : List Int) (a0_3z : Bool) (a0_3 : List Int) (a0_4z : Bool) (a0_4 : List T) : answer Try.prog impl_QcVotes.Cs 100000 impl_QcVotes.cuts [] Try.f106 (k + 1) [.v (.agg [(.int .i64 a0_0), (.int .i64 a0_1), (.nums 5 .u8 a0_2z a0_2), (.nums 5 .u8 a0_3z a0_3), (.sl 45 a0_4z a0_4)])] = impl_QcVotes.b (fun r => some (impl_QcVotes.enc r)) (fun x3 x16z x16 x17 x18 c1_0 c1_1 c1_2z c1_2 c1_3z c1_3 c1_4z c1_4 => rounds Try.prog impl_QcVotes.Cs (finish Try.prog [] Try.f106 [.v (.agg [(.int .i64 a0_0), (.int .i64 a0_1), (.nums 5 .u8 a0_2z a0_2), (.nums 5 .u8 a0_3z a0_3), (.sl 45 a0_4z a0_4)])]) 100000 k impl_QcVotes.K0 (impl_QcVotes.N0 x3 x16z x16 x17 x18 c1_0 c1_1 c1_2z c1_2 c1_3z c1_3 c1_4z c1_4)) k a0_0 a0_1 a0_2z a0_2 a0_3z a0_3 a0_4z a0_4 := by kernel_rfl
theorem impl_QcVotes.s0 (k : Nat) (G : List Fr → St → Option Res) (a0_0 : Int) (a0_1 : Int) (a0_2z : Bool) (a0_2 : List Int) (a0_3z : Bool) (a0_3 : List Int) (a0_4z : Bool) (a0_4 : List T) (yx3 : List T) (yx16z : Bool) (yx16 : List Int) (yx17 : Int) (yx18 : Int) (yc1_0 : Int) (yc1_1 : Int) (yc1_2z : Bool) (yc1_2 : List Int) (yc1_3z : Bool) (yc1_3 : List Int) (yc1_4z : Bool) (yc1_4 : List T) : resume Try.prog (impl_QcVotes.Cs k) G (finish Try.prog [] Try.f106 [.v (.agg [(.int .i64 a0_0), (.int .i64 a0_1), (.nums 5 .u8 a0_2z a0_2), (.nums 5 .u8 a0_3z a0_3), (.sl 45 a0_4z a0_4)])]) 100000 impl_QcVotes.K0 (impl_QcVotes.N0 yx3 yx16z yx16 yx17 yx18 yc1_0 yc1_1 yc1_2z yc1_2 yc1_3z yc1_3 yc1_4z yc1_4) = impl_QcVotes.l0b (fun r => some (impl_QcVotes.enc r)) (fun x3 x16z x16 x17 x18 c1_0 c1_1 c1_2z c1_2 c1_3z c1_3 c1_4z c1_4 => G impl_QcVotes.K0 (impl_QcVotes.N0 x3 x16z x16 x17 x18 c1_0 c1_1 c1_2z c1_2 c1_3z c1_3 c1_4z c1_4)) k yx3 yx16z yx16 yx17 yx18 yc1_0 yc1_1 yc1_2z yc1_2 yc1_3z yc1_3 yc1_4z yc1_4 := by kernel_rfl
theorem impl_QcVotes.b_nat {R R' : Type} (e : R → R') (ret : Bool × List T → Option R) (j0 : (List T) → Bool → (List Int) → Int → Int → Int → Int → Bool → (List Int) → Bool → (List Int) → Bool → (List T) → Option R) (k : Nat) (a0_0 : Int) (a0_1 : Int) (a0_2z : Bool) (a0_2 : List Int) (a0_3z : Bool) (a0_3 : List Int) (a0_4z : Bool) (a0_4 : List T) : impl_QcVotes.b (fun r => (ret r).map e) (fun x3 x16z x16 x17 x18 c1_0 c1_1 c1_2z c1_2 c1_3z c1_3 c1_4z c1_4 => (j0 x3 x16z x16 x17 x18 c1_0 c1_1 c1_2z c1_2 c1_3z c1_3 c1_4z c1_4).map e) k a0_0 a0_1 a0_2z a0_2 a0_3z a0_3 a0_4z a0_4 = (impl_QcVotes.b ret j0 k a0_0 a0_1 a0_2z a0_2 a0_3z a0_3 a0_4z a0_4).map e := by
  unfold impl_QcVotes.b
  repeat' first | with_reducible refine nat_cond ?_ ?_ | with_reducible refine nat_bind fun _ => ?_ | rfl
theorem impl_QcVotes.l0b_nat {R R' : Type} (e : R → R') (ret : Bool × List T → Option R) (j0 : (List T) → Bool → (List Int) → Int → Int → Int → Int → Bool → (List Int) → Bool → (List Int) → Bool → (List T) → Option R) (k : Nat) (x3 : List T) (x16z : Bool) (x16 : List Int) (x17 : Int) (x18 : Int) (c1_0 : Int) (c1_1 : Int) (c1_2z : Bool) (c1_2 : List Int) (c1_3z : Bool) (c1_3 : List Int) (c1_4z : Bool) (c1_4 : List T) : impl_QcVotes.l0b (fun r => (ret r).map e) (fun x3 x16z x16 x17 x18 c1_0 c1_1 c1_2z c1_2 c1_3z c1_3 c1_4z c1_4 => (j0 x3 x16z x16 x17 x18 c1_0 c1_1 c1_2z c1_2 c1_3z c1_3 c1_4z c1_4).map e) k x3 x16z x16 x17 x18 c1_0 c1_1 c1_2z c1_2 c1_3z c1_3 c1_4z c1_4 = (impl_QcVotes.l0b ret j0 k x3 x16z x16 x17 x18 c1_0 c1_1 c1_2z c1_2 c1_3z c1_3 c1_4z c1_4).map e := by
  unfold impl_QcVotes.l0b
  repeat' first | with_reducible refine nat_cond ?_ ?_ | with_reducible refine nat_bind fun _ => ?_ | rfl
theorem impl_QcVotes.rounds_eq (a0_0 : Int) (a0_1 : Int) (a0_2z : Bool) (a0_2 : List Int) (a0_3z : Bool) (a0_3 : List Int) (a0_4z : Bool) (a0_4 : List T) : ∀ k, (∀ (x3 : List T) (x16z : Bool) (x16 : List Int) (x17 : Int) (x18 : Int) (c1_0 : Int) (c1_1 : Int) (c1_2z : Bool) (c1_2 : List Int) (c1_3z : Bool) (c1_3 : List Int) (c1_4z : Bool) (c1_4 : List T), rounds Try.prog impl_QcVotes.Cs (finish Try.prog [] Try.f106 [.v (.agg [(.int .i64 a0_0), (.int .i64 a0_1), (.nums 5 .u8 a0_2z a0_2), (.nums 5 .u8 a0_3z a0_3), (.sl 45 a0_4z a0_4)])]) 100000 k impl_QcVotes.K0 (impl_QcVotes.N0 x3 x16z x16 x17 x18 c1_0 c1_1 c1_2z c1_2 c1_3z c1_3 c1_4z c1_4) = (impl_QcVotes.l0 k x3 x16z x16 x17 x18 c1_0 c1_1 c1_2z c1_2 c1_3z c1_3 c1_4z c1_4).map impl_QcVotes.enc)
  | 0 => fun _ _ _ _ _ _ _ _ _ _ _ _ _ => rfl
  | k + 1 => by
    have ih := impl_QcVotes.rounds_eq a0_0 a0_1 a0_2z a0_2 a0_3z a0_3 a0_4z a0_4 k
    refine fun _ _ _ _ _ _ _ _ _ _ _ _ _ => ?_
    · refine (impl_QcVotes.s0 k _ a0_0 a0_1 a0_2z a0_2 a0_3z a0_3 a0_4z a0_4 _ _ _ _ _ _ _ _ _ _ _ _ _).trans (Eq.trans ?_ (impl_QcVotes.l0b_nat impl_QcVotes.enc some (impl_QcVotes.l0 k) k _ _ _ _ _ _ _ _ _ _ _ _ _))
      simp only [ih, Option.map_some]
theorem impl_QcVotes.eq (k : Nat) (a0_0 : Int) (a0_1 : Int) (a0_2z : Bool) (a0_2 : List Int) (a0_3z : Bool) (a0_3 : List Int) (a0_4z : Bool) (a0_4 : List T) : answer Try.prog impl_QcVotes.Cs 100000 impl_QcVotes.cuts [] Try.f106 (k + 1) [.v (.agg [(.int .i64 a0_0), (.int .i64 a0_1), (.nums 5 .u8 a0_2z a0_2), (.nums 5 .u8 a0_3z a0_3), (.sl 45 a0_4z a0_4)])] = (impl_QcVotes.f (k + 1) a0_0 a0_1 a0_2z a0_2 a0_3z a0_3 a0_4z a0_4).map impl_QcVotes.enc := by
  have ih := impl_QcVotes.rounds_eq a0_0 a0_1 a0_2z a0_2 a0_3z a0_3 a0_4z a0_4 k
  refine (impl_QcVotes.s k a0_0 a0_1 a0_2z a0_2 a0_3z a0_3 a0_4z a0_4).trans (Eq.trans ?_ (impl_QcVotes.b_nat impl_QcVotes.enc some (impl_QcVotes.l0 k) k a0_0 a0_1 a0_2z a0_2 a0_3z a0_3 a0_4z a0_4))
  simp only [ih, Option.map_some]
theorem impl_QcVotes.sound (k : Nat) : SoundF Try.prog 106 (fun a => (impl_QcVotes.ans k a).val) := by
  refine sound_plain (fun args res h => ?_) (fun t n => rfl)
  unfold impl_QcVotes.ans at h
  dsimp only at h
  split at h
  · cases k with
    | zero => cases h
    | succ k =>
      unfold Ans.val at h
      rw [← impl_QcVotes.eq] at h
      exact answer_sound mixed Try.func106 _ _ _ (k + 1) (fun j _ => tab_sound (tab_cons (impl_BitsList.sound j) (tab_cons (impl_BitsCount.sound j) (tab_cons (impl_copyBytes.sound j) (tab_nil))))) _ _ h
  · exact (Ans.no_val h).elim

/-! loop.example/g00790/impl.PutVar -/
def impl_PutVar.b {R : Type} (ret : Bool × (List Int) × Bool → Option R) (j0 : Int → Bool → (List Int) → Option R) (k : Nat) (a0z : Bool) (a0 : List Int) (a1 : Int) : Option R :=
  (impl_isNum.f k a1).bind fun t0 => cond (!t0) (ret (true, ([] : List Int), false)) ((impl_copyBytes.f k a0z a0).bind fun t1 => j0 a1 t1.1 t1.2)
def impl_PutVar.l0b {R : Type} (ret : Bool × (List Int) × Bool → Option R) (j0 : Int → Bool → (List Int) → Option R) (k : Nat) (x1 : Int) (x6z : Bool) (x6 : List Int) : Option R :=
  cond (decide (x1 ≥ 128)) (cond (decide ((x6).length + 1 < 140737488355328)) (j0 (RowKit.wrap64 (Int.tdiv x1 128)) false (x6 ++ ([(((RowKit.wrap64 ((Int.tmod x1 128) + 128))) % 256)] : List Int))) (none)) (cond (decide ((x6).length + 1 < 140737488355328)) (ret (false, (x6 ++ ([((x1) % 256)] : List Int)), true)) (none))
def impl_PutVar.l0 : Nat → Int → Bool → (List Int) → Option (Bool × (List Int) × Bool)
  | 0, _, _, _ => none
  | k + 1, x1, x6z, x6 => impl_PutVar.l0b some (impl_PutVar.l0 k) k x1 x6z x6
def impl_PutVar.f : Nat → Bool → (List Int) → Int → Option (Bool × (List Int) × Bool)
  | 0, _, _, _ => none
  | k + 1, a0z, a0, a1 => impl_PutVar.b some (impl_PutVar.l0 k) k a0z a0 a1
def impl_PutVar.enc (r : Bool × (List Int) × Bool) : Res := ⟨[.vals false [((.nums 5 .u8 r.1 r.2.1), true)], .vals false [((.bool r.2.2), true)]], []⟩
def impl_PutVar.ans (k : Nat) : List Arg → Ans
  | [.v (.nums 5 .u8 a0z a0), .v (.int .i64 a1)] => ⟨impl_PutVar.f k a0z a0 a1, impl_PutVar.enc⟩
  | _ => Ans.no
def impl_PutVar.Cs (k : Nat) : CallSem := tab [(161, impl_isNum.ans k), (132, impl_copyBytes.ans k)]
def impl_PutVar.cuts : List (Nat × Keep) := [(60, ⟨[(1, some []), (6, none)], []⟩)]
noncomputable def impl_PutVar.K0 : List Fr := framesAt [true, true, true, false, false] (bodyOf Try.f210 impl_PutVar.cuts) []
def impl_PutVar.N0 (x1 : Int) (x6z : Bool) (x6 : List Int) : St := stOf 28 28 2 [(1, .val (V.s (.int .i64 x1))), (6, .val ⟨(.nums 5 .u8 x6z x6), [.l 6 0], true, some (.l 6 0)⟩)] []
theorem impl_PutVar.s (k : Nat) (a0z : Bool) (a0 : List Int) (a1 : Int) : answer Try.prog impl_PutVar.Cs 100000 impl_PutVar.cuts [] Try.f210 (k + 1) [.v (.nums 5 .u8 a0z a0), .v (.int .i64 a1)] = impl_PutVar.b (fun r => some (impl_PutVar.enc r)) (fun x1 x6z x6 => rounds Try.prog impl_PutVar.Cs (finish Try.prog [] Try.f210 [.v (.nums 5 .u8 a0z a0), .v (.int .i64 a1)]) 100000 k impl_PutVar.K0 (impl_PutVar.N0 x1 x6z x6)) k a0z a0 a1 := by kernel_rfl
theorem impl_PutVar.s0 (k : Nat) (G : List Fr → St → Option Res) (a0z : Bool) (a0 : List Int) (a1 : Int) (yx1 : Int) (yx6z : Bool) (yx6 : List Int) : resume Try.prog (impl_PutVar.Cs k) G (finish Try.prog [] Try.f210 [.v (.nums 5 .u8 a0z a0), .v (.int .i64 a1)]) 100000 impl_PutVar.K0 (impl_PutVar.N0 yx1 yx6z yx6) = impl_PutVar.l0b (fun r => some (impl_PutVar.enc r)) (fun x1 x6z x6 => G impl_PutVar.K0 (impl_PutVar.N0 x1 x6z x6)) k yx1 yx6z yx6 := by kernel_rfl
theorem impl_PutVar.b_nat {R R' : Type} (e : R → R') (ret : Bool × (List Int) × Bool → Option R) (j0 : Int → Bool → (List Int) → Option R) (k : Nat) (a0z : Bool) (a0 : List Int) (a1 : Int) : impl_PutVar.b (fun r => (ret r).map e) (fun x1 x6z x6 => (j0 x1 x6z x6).map e) k a0z a0 a1 = (impl_PutVar.b ret j0 k a0z a0 a1).map e := by
  unfold impl_PutVar.b
  repeat' first | with_reducible refine nat_cond ?_ ?_ | with_reducible refine nat_bind fun _ => ?_ | rfl
theorem impl_PutVar.l0b_nat {R R' : Type} (e : R → R') (ret : Bool × (List Int) × Bool → Option R) (j0 : Int → Bool → (List Int) → Option R) (k : Nat) (x1 : Int) (x6z : Bool) (x6 : List Int) : impl_PutVar.l0b (fun r => (ret r).map e) (fun x1 x6z x6 => (j0 x1 x6z x6).map e) k x1 x6z x6 = (impl_PutVar.l0b ret j0 k x1 x6z x6).map e := by
  unfold impl_PutVar.l0b
  repeat' first | with_reducible refine nat_cond ?_ ?_ | with_reducible refine nat_bind fun _ => ?_ | rfl
theorem impl_PutVar.rounds_eq (a0z : Bool) (a0 : List Int) (a1 : Int) : ∀ k, (∀ (x1 : Int) (x6z : Bool) (x6 : List Int), rounds Try.prog impl_PutVar.Cs (finish Try.prog [] Try.f210 [.v (.nums 5 .u8 a0z a0), .v (.int .i64 a1)]) 100000 k impl_PutVar.K0 (impl_PutVar.N0 x1 x6z x6) = (impl_PutVar.l0 k x1 x6z x6).map impl_PutVar.enc)
  | 0 => fun _ _ _ => rfl
  | k + 1 => by
    have ih := impl_PutVar.rounds_eq a0z a0 a1 k
    refine fun _ _ _ => ?_
    · refine (impl_PutVar.s0 k _ a0z a0 a1 _ _ _).trans (Eq.trans ?_ (impl_PutVar.l0b_nat impl_PutVar.enc some (impl_PutVar.l0 k) k _ _ _))
      simp only [ih, Option.map_some]
theorem impl_PutVar.eq (k : Nat) (a0z : Bool) (a0 : List Int) (a1 : Int) : answer Try.prog impl_PutVar.Cs 100000 impl_PutVar.cuts [] Try.f210 (k + 1) [.v (.nums 5 .u8 a0z a0), .v (.int .i64 a1)] = (impl_PutVar.f (k + 1) a0z a0 a1).map impl_PutVar.enc := by
  have ih := impl_PutVar.rounds_eq a0z a0 a1 k
  refine (impl_PutVar.s k a0z a0 a1).trans (Eq.trans ?_ (impl_PutVar.b_nat impl_PutVar.enc some (impl_PutVar.l0 k) k a0z a0 a1))
  simp only [ih, Option.map_some]
theorem impl_PutVar.sound (k : Nat) : SoundF Try.prog 210 (fun a => (impl_PutVar.ans k a).val) := by
  refine sound_plain (fun args res h => ?_) (fun t n => rfl)
  unfold impl_PutVar.ans at h
  dsimp only at h
  split at h
  · cases k with
    | zero => cases h
    | succ k =>
      unfold Ans.val at h
      rw [← impl_PutVar.eq] at h
      exact answer_sound mixed Try.func210 _ _ _ (k + 1) (fun j _ => tab_sound (tab_cons (impl_isNum.sound j) (tab_cons (impl_copyBytes.sound j) (tab_nil)))) _ _ h
  · exact (Ans.no_val h).elim

/-! loop.example/g00790/impl.numbers -/
def impl_numbers.b {R : Type} (ret : Bool × List Int → Option R) (j0 : Bool → (List Int) → Bool → (List Int) → Int → Int → Option R) (k : Nat) (a0 : Int) (a1z : Bool) (a1 : List Int) : Option R :=
  j0 false ([a0] : List Int) a1z a1 ((a1).length : Int) 0
def impl_numbers.l0b {R : Type} (ret : Bool × List Int → Option R) (j0 : Bool → (List Int) → Bool → (List Int) → Int → Int → Option R) (k : Nat) (x5z : Bool) (x5 : List Int) (x12z : Bool) (x12 : List Int) (x13 : Int) (x14 : Int) : Option R :=
  cond (decide (x14 < x13)) (cond (decide ((0 : Int) ≤ x14)) (cond (decide (x14 < ((x12).length : Int))) ((impl_PutVar.f k x5z x5 (rdI x12 x14)).bind fun t0 => cond (!t0.2.2) (ret (true, ([] : List Int))) (j0 t0.1 t0.2.1 x12z x12 x13 (RowKit.wrap64 (x14 + 1)))) (none)) (none)) (ret (x5z, x5))
def impl_numbers.l0 : Nat → Bool → (List Int) → Bool → (List Int) → Int → Int → Option (Bool × List Int)
  | 0, _, _, _, _, _, _ => none
  | k + 1, x5z, x5, x12z, x12, x13, x14 => impl_numbers.l0b some (impl_numbers.l0 k) k x5z x5 x12z x12 x13 x14
def impl_numbers.f : Nat → Int → Bool → (List Int) → Option (Bool × List Int)
  | 0, _, _, _ => none
  | k + 1, a0, a1z, a1 => impl_numbers.b some (impl_numbers.l0 k) k a0 a1z a1
def impl_numbers.enc (r : Bool × List Int) : Res := ⟨[.vals false [((.nums 5 .u8 r.1 r.2), true)]], []⟩
def impl_numbers.ans (k : Nat) : List Arg → Ans
  | [.v (.int .u8 a0), .v (.nums 3 .i64 a1z a1)] => ⟨impl_numbers.f k a0 a1z a1, impl_numbers.enc⟩
  | _ => Ans.no
def impl_numbers.Cs (k : Nat) : CallSem := tab [(210, impl_PutVar.ans k)]
def impl_numbers.cuts : List (Nat × Keep) := [(58, ⟨[(5, none), (12, some []), (13, some []), (14, some [])], []⟩)]
noncomputable def impl_numbers.K0 : List Fr := framesAt [true, true, false, true, false] (bodyOf Try.f184 impl_numbers.cuts) []
def impl_numbers.N0 (x5z : Bool) (x5 : List Int) (x12z : Bool) (x12 : List Int) (x13 : Int) (x14 : Int) : St := stOf 29 29 2 [(5, .val ⟨(.nums 5 .u8 x5z x5), [.l 5 0], true, some (.l 5 0)⟩), (12, .val ⟨(.nums 3 .i64 x12z x12), [], false, none⟩), (13, .val (V.s (.int .i64 x13))), (14, .val (V.s (.int .i64 x14)))] []
theorem impl_numbers.s (k : Nat) (a0 : Int) (a1z : Bool) (a1 : List Int) : answer Try.prog impl_numbers.Cs 100000 impl_numbers.cuts [] Try.f184 (k + 1) [.v (.int .u8 a0), .v (.nums 3 .i64 a1z a1)] = impl_numbers.b (fun r => some (impl_numbers.enc r)) (fun x5z x5 x12z x12 x13 x14 => rounds Try.prog impl_numbers.Cs (finish Try.prog [] Try.f184 [.v (.int .u8 a0), .v (.nums 3 .i64 a1z a1)]) 100000 k impl_numbers.K0 (impl_numbers.N0 x5z x5 x12z x12 x13 x14)) k a0 a1z a1 := by kernel_rfl
theorem impl_numbers.s0 (k : Nat) (G : List Fr → St → Option Res) (a0 : Int) (a1z : Bool) (a1 : List Int) (yx5z : Bool) (yx5 : List Int) (yx12z : Bool) (yx12 : List Int) (yx13 : Int) (yx14 : Int) : resume Try.prog (impl_numbers.Cs k) G (finish Try.prog [] Try.f184 [.v (.int .u8 a0), .v (.nums 3 .i64 a1z a1)]) 100000 impl_numbers.K0 (impl_numbers.N0 yx5z yx5 yx12z yx12 yx13 yx14) = impl_numbers.l0b (fun r => some (impl_numbers.enc r)) (fun x5z x5 x12z x12 x13 x14 => G impl_numbers.K0 (impl_numbers.N0 x5z x5 x12z x12 x13 x14)) k yx5z yx5 yx12z yx12 yx13 yx14 := by kernel_rfl
theorem impl_numbers.b_nat {R R' : Type} (e : R → R') (ret : Bool × List Int → Option R) (j0 : Bool → (List Int) → Bool → (List Int) → Int → Int → Option R) (k : Nat) (a0 : Int) (a1z : Bool) (a1 : List Int) : impl_numbers.b (fun r => (ret r).map e) (fun x5z x5 x12z x12 x13 x14 => (j0 x5z x5 x12z x12 x13 x14).map e) k a0 a1z a1 = (impl_numbers.b ret j0 k a0 a1z a1).map e := by
  unfold impl_numbers.b
  repeat' first | with_reducible refine nat_cond ?_ ?_ | with_reducible refine nat_bind fun _ => ?_ | rfl
theorem impl_numbers.l0b_nat {R R' : Type} (e : R → R') (ret : Bool × List Int → Option R) (j0 : Bool → (List Int) → Bool → (List Int) → Int → Int → Option R) (k : Nat) (x5z : Bool) (x5 : List Int) (x12z : Bool) (x12 : List Int) (x13 : Int) (x14 : Int) : impl_numbers.l0b (fun r => (ret r).map e) (fun x5z x5 x12z x12 x13 x14 => (j0 x5z x5 x12z x12 x13 x14).map e) k x5z x5 x12z x12 x13 x14 = (impl_numbers.l0b ret j0 k x5z x5 x12z x12 x13 x14).map e := by
  unfold impl_numbers.l0b
  repeat' first | with_reducible refine nat_cond ?_ ?_ | with_reducible refine nat_bind fun _ => ?_ | rfl
theorem impl_numbers.rounds_eq (a0 : Int) (a1z : Bool) (a1 : List Int) : ∀ k, (∀ (x5z : Bool) (x5 : List Int) (x12z : Bool) (x12 : List Int) (x13 : Int) (x14 : Int), rounds Try.prog impl_numbers.Cs (finish Try.prog [] Try.f184 [.v (.int .u8 a0), .v (.nums 3 .i64 a1z a1)]) 100000 k impl_numbers.K0 (impl_numbers.N0 x5z x5 x12z x12 x13 x14) = (impl_numbers.l0 k x5z x5 x12z x12 x13 x14).map impl_numbers.enc)
  | 0 => fun _ _ _ _ _ _ => rfl
  | k + 1 => by
    have ih := impl_numbers.rounds_eq a0 a1z a1 k
    refine fun _ _ _ _ _ _ => ?_
    · refine (impl_numbers.s0 k _ a0 a1z a1 _ _ _ _ _ _).trans (Eq.trans ?_ (impl_numbers.l0b_nat impl_numbers.enc some (impl_numbers.l0 k) k _ _ _ _ _ _))
      simp only [ih, Option.map_some]
theorem impl_numbers.eq (k : Nat) (a0 : Int) (a1z : Bool) (a1 : List Int) : answer Try.prog impl_numbers.Cs 100000 impl_numbers.cuts [] Try.f184 (k + 1) [.v (.int .u8 a0), .v (.nums 3 .i64 a1z a1)] = (impl_numbers.f (k + 1) a0 a1z a1).map impl_numbers.enc := by
  have ih := impl_numbers.rounds_eq a0 a1z a1 k
  refine (impl_numbers.s k a0 a1z a1).trans (Eq.trans ?_ (impl_numbers.b_nat impl_numbers.enc some (impl_numbers.l0 k) k a0 a1z a1))
  simp only [ih, Option.map_some]
theorem impl_numbers.sound (k : Nat) : SoundF Try.prog 184 (fun a => (impl_numbers.ans k a).val) := by
  refine sound_plain (fun args res h => ?_) (fun t n => rfl)
  unfold impl_numbers.ans at h
  dsimp only at h
  split at h
  · cases k with
    | zero => cases h
    | succ k =>
      unfold Ans.val at h
      rw [← impl_numbers.eq] at h
      exact answer_sound mixed Try.func184 _ _ _ (k + 1) (fun j _ => tab_sound (tab_cons (impl_PutVar.sound j) (tab_nil))) _ _ h
  · exact (Ans.no_val h).elim

/-! loop.example/g00790/impl.VoteBytes -/
def impl_VoteBytes.b {R : Type} (ret : Bool × List Int → Option R) (k : Nat) (a0 : Int) (a1 : Int) (a2z : Bool) (a2 : List Int) : Option R :=
  (impl_numbers.f k 86 false ([a0, a1] : List Int)).bind fun t0 => cond t0.1 (ret (true, ([] : List Int))) ((impl_areHashes.f k false ([(.nums 5 .u8 a2z a2)] : List T)).bind fun t1 => cond (!t1) (ret (true, ([] : List Int))) (cond (decide ((t0.2).length + (a2).length < 140737488355328)) (ret (((a2).isEmpty && t0.1), (t0.2 ++ a2))) (none)))
def impl_VoteBytes.f : Nat → Int → Int → Bool → (List Int) → Option (Bool × List Int)
  | 0, _, _, _, _ => none
  | k + 1, a0, a1, a2z, a2 => impl_VoteBytes.b some k a0 a1 a2z a2
def impl_VoteBytes.enc (r : Bool × List Int) : Res := ⟨[.vals false [((.nums 5 .u8 r.1 r.2), true)]], []⟩
def impl_VoteBytes.ans (k : Nat) : List Arg → Ans
  | [.v (.int .i64 a0), .v (.int .i64 a1), .v (.nums 5 .u8 a2z a2)] => ⟨impl_VoteBytes.f k a0 a1 a2z a2, impl_VoteBytes.enc⟩
  | _ => Ans.no
def impl_VoteBytes.Cs (k : Nat) : CallSem := tab [(162, impl_areHashes.ans k), (184, impl_numbers.ans k)]
def impl_VoteBytes.cuts : List (Nat × Keep) := []
theorem impl_VoteBytes.s (k : Nat) (a0 : Int) (a1 : Int) (a2z : Bool) (a2 : List Int) : answer Try.prog impl_VoteBytes.Cs 100000 impl_VoteBytes.cuts [] Try.f131 (k + 1) [.v (.int .i64 a0), .v (.int .i64 a1), .v (.nums 5 .u8 a2z a2)] = impl_VoteBytes.b (fun r => some (impl_VoteBytes.enc r)) k a0 a1 a2z a2 := by kernel_rfl
theorem impl_VoteBytes.b_nat {R R' : Type} (e : R → R') (ret : Bool × List Int → Option R) (k : Nat) (a0 : Int) (a1 : Int) (a2z : Bool) (a2 : List Int) : impl_VoteBytes.b (fun r => (ret r).map e) k a0 a1 a2z a2 = (impl_VoteBytes.b ret k a0 a1 a2z a2).map e := by
  unfold impl_VoteBytes.b
  repeat' first | with_reducible refine nat_cond ?_ ?_ | with_reducible refine nat_bind fun _ => ?_ | rfl
theorem impl_VoteBytes.eq (k : Nat) (a0 : Int) (a1 : Int) (a2z : Bool) (a2 : List Int) : answer Try.prog impl_VoteBytes.Cs 100000 impl_VoteBytes.cuts [] Try.f131 (k + 1) [.v (.int .i64 a0), .v (.int .i64 a1), .v (.nums 5 .u8 a2z a2)] = (impl_VoteBytes.f (k + 1) a0 a1 a2z a2).map impl_VoteBytes.enc := by
  refine (impl_VoteBytes.s k a0 a1 a2z a2).trans (Eq.trans ?_ (impl_VoteBytes.b_nat impl_VoteBytes.enc some k a0 a1 a2z a2))
  simp only [Option.map_some]
theorem impl_VoteBytes.sound (k : Nat) : SoundF Try.prog 131 (fun a => (impl_VoteBytes.ans k a).val) := by
  refine sound_plain (fun args res h => ?_) (fun t n => rfl)
  unfold impl_VoteBytes.ans at h
  dsimp only at h
  split at h
  · cases k with
    | zero => cases h
    | succ k =>
      unfold Ans.val at h
      rw [← impl_VoteBytes.eq] at h
      exact answer_sound mixed Try.func131 _ _ _ (k + 1) (fun j _ => tab_sound (tab_cons (impl_areHashes.sound j) (tab_cons (impl_numbers.sound j) (tab_nil)))) _ _ h
  · exact (Ans.no_val h).elim

/-! loop.example/g00790/impl.ShaInit -/
def impl_ShaInit.b {R : Type} (ret : Bool × List Int → Option R) (k : Nat) : Option R :=
  ret (false, ([1779033703, 3144134277, 1013904242, 2773480762, 1359893119, 2600822924, 528734635, 1541459225] : List Int))
def impl_ShaInit.f : Nat → Option (Bool × List Int)
  | 0 => none
  | k + 1 => impl_ShaInit.b some k
def impl_ShaInit.enc (r : Bool × List Int) : Res := ⟨[.vals false [((.nums 3 .i64 r.1 r.2), true)]], []⟩
def impl_ShaInit.ans (k : Nat) : List Arg → Ans
  | [] => ⟨impl_ShaInit.f k, impl_ShaInit.enc⟩
  | _ => Ans.no
def impl_ShaInit.Cs (k : Nat) : CallSem := tab []
def impl_ShaInit.cuts : List (Nat × Keep) := []
theorem impl_ShaInit.s (k : Nat) : answer Try.prog impl_ShaInit.Cs 100000 impl_ShaInit.cuts [] Try.f198 (k + 1) [] = impl_ShaInit.b (fun r => some (impl_ShaInit.enc r)) k := by kernel_rfl
theorem impl_ShaInit.b_nat {R R' : Type} (e : R → R') (ret : Bool × List Int → Option R) (k : Nat) : impl_ShaInit.b (fun r => (ret r).map e) k = (impl_ShaInit.b ret k).map e := by
  unfold impl_ShaInit.b
  repeat' first | with_reducible refine nat_cond ?_ ?_ | with_reducible refine nat_bind fun _ => ?_ | rfl
theorem impl_ShaInit.eq (k : Nat) : answer Try.prog impl_ShaInit.Cs 100000 impl_ShaInit.cuts [] Try.f198 (k + 1) [] = (impl_ShaInit.f (k + 1)).map impl_ShaInit.enc := by
  refine (impl_ShaInit.s k).trans (Eq.trans ?_ (impl_ShaInit.b_nat impl_ShaInit.enc some k))
  simp only [Option.map_some]
theorem impl_ShaInit.sound (k : Nat) : SoundF Try.prog 198 (fun a => (impl_ShaInit.ans k a).val) := by
  refine sound_plain (fun args res h => ?_) (fun t n => rfl)
  unfold impl_ShaInit.ans at h
  dsimp only at h
  split at h
  · cases k with
    | zero => cases h
    | succ k =>
      unfold Ans.val at h
      rw [← impl_ShaInit.eq] at h
      exact answer_sound mixed Try.func198 _ _ _ (k + 1) (fun j _ => tab_sound (tab_nil)) _ _ h
  · exact (Ans.no_val h).elim

end Go.Proofs.YtadnejogdohfkaaG
