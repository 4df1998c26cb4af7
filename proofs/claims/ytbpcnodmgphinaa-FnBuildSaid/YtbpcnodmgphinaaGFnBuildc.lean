/- What the functions compute, printed by a program of this repo; each is shown to be what the machine of values answers. No condition. -/
import Derived.Test.YtbpcnodmgphinaaProg
import Derived.KernelRfl
import Derived.Test.YtbpcnodmgphinaaGFnBuildb
namespace Go.Proofs.YtbpcnodmgphinaaG
open Go Go.Proofs.YtbpcnodmgphinaaRv Go.Proofs
set_option linter.unusedVariables false
set_option linter.unusedSimpArgs false
/-! loop.example/g00790/impl.BuildQc -/
def impl_BuildQc.b {R : Type} (ret : Int × Int × Bool × (List Int) × Bool × (List Int) × Bool × (List T) × Bool → Option R) (j0 : Int → Int → Bool → (List Int) → Bool → (List Int) → Int → Int → Int → Int → Int → Int → Int → Bool → (List T) → Int → Int → Bool → (List Int) → Bool → (List Int) → Bool → (List T) → Option R) (k : Nat) (a0_0 : Int) (a0_1 : Int) (a0_2 : Int) (a0_3 : Int) (a0_4 : Int) (a1_0z : Bool) (a1_0 : List T) (a2 : Int) (a3 : Int) (a4z : Bool) (a4 : List Int) (a5z : Bool) (a5 : List Int) : Option R :=
  (impl_belongs.f k a0_0 a0_1 a0_2 a0_3 a0_4 a1_0z a1_0).bind fun t0 => cond (!t0) (ret (0, 0, true, ([] : List Int), true, ([] : List Int), true, ([] : List T), false)) ((impl_BitsOk.f k a5z a5 a0_0).bind fun t1 => cond (!t1) (ret (0, 0, true, ([] : List Int), true, ([] : List Int), true, ([] : List T), false)) ((impl_copyBytes.f k a4z a4).bind fun t2 => (impl_copyBytes.f k a5z a5).bind fun t3 => (impl_BitsList.f k a5z a5).bind fun t4 => j0 a2 a3 a4z a4 t4.1 t4.2 ((t4.2).length : Int) 0 a0_0 a0_1 a0_2 a0_3 a0_4 a1_0z a1_0 a2 a3 t2.1 t2.2 t3.1 t3.2 true ([] : List T)))
def impl_BuildQc.l0b {R : Type} (ret : Int × Int × Bool × (List Int) × Bool × (List Int) × Bool × (List T) × Bool → Option R) (j0 : Int → Int → Bool → (List Int) → Bool → (List Int) → Int → Int → Int → Int → Int → Int → Int → Bool → (List T) → Int → Int → Bool → (List Int) → Bool → (List Int) → Bool → (List T) → Option R) (k : Nat) (x2 : Int) (x3 : Int) (x4z : Bool) (x4 : List Int) (x39z : Bool) (x39 : List Int) (x40 : Int) (x41 : Int) (c6_0 : Int) (c6_1 : Int) (c6_2 : Int) (c6_3 : Int) (c6_4 : Int) (c7_0z : Bool) (c7_0 : List T) (c14_0 : Int) (c14_1 : Int) (c14_2z : Bool) (c14_2 : List Int) (c14_3z : Bool) (c14_3 : List Int) (c14_4z : Bool) (c14_4 : List T) : Option R :=
  cond (decide (x41 < x40)) (cond (decide ((0 : Int) ≤ x41)) (cond (decide (x41 < ((x39).length : Int))) ((impl_SignVote.f k c7_0z c7_0 x2 x3 x4z x4 (rdI x39 x41)).bind fun t0 => cond (decide ((c14_4).length + 1 < 5864062014805)) (j0 x2 x3 x4z x4 x39z x39 x40 (RowKit.wrap64 (x41 + 1)) c6_0 c6_1 c6_2 c6_3 c6_4 c7_0z c7_0 c14_0 c14_1 c14_2z c14_2 c14_3z c14_3 false (c14_4 ++ ([(.nums 5 .u8 t0.2.2.2.2.2.1 t0.2.2.2.2.2.2.1)] : List T))) (none)) (none)) (none)) ((impl_QcOk.f k c6_0 c6_1 c6_2 c6_3 c6_4 c14_0 c14_1 c14_2z c14_2 c14_3z c14_3 c14_4z c14_4).bind fun t0 => cond (!t0) (ret (0, 0, true, ([] : List Int), true, ([] : List Int), true, ([] : List T), false)) (ret (c14_0, c14_1, c14_2z, c14_2, c14_3z, c14_3, c14_4z, c14_4, true)))
def impl_BuildQc.l0 : Nat → Int → Int → Bool → (List Int) → Bool → (List Int) → Int → Int → Int → Int → Int → Int → Int → Bool → (List T) → Int → Int → Bool → (List Int) → Bool → (List Int) → Bool → (List T) → Option (Int × Int × Bool × (List Int) × Bool × (List Int) × Bool × (List T) × Bool)
  | 0, _, _, _, _, _, _, _, _, _, _, _, _, _, _, _, _, _, _, _, _, _, _, _ => none
  | k + 1, x2, x3, x4z, x4, x39z, x39, x40, x41, c6_0, c6_1, c6_2, c6_3, c6_4, c7_0z, c7_0, c14_0, c14_1, c14_2z, c14_2, c14_3z, c14_3, c14_4z, c14_4 => impl_BuildQc.l0b some (impl_BuildQc.l0 k) k x2 x3 x4z x4 x39z x39 x40 x41 c6_0 c6_1 c6_2 c6_3 c6_4 c7_0z c7_0 c14_0 c14_1 c14_2z c14_2 c14_3z c14_3 c14_4z c14_4
def impl_BuildQc.f : Nat → Int → Int → Int → Int → Int → Bool → (List T) → Int → Int → Bool → (List Int) → Bool → (List Int) → Option (Int × Int × Bool × (List Int) × Bool × (List Int) × Bool × (List T) × Bool)
  | 0, _, _, _, _, _, _, _, _, _, _, _, _, _ => none
  | k + 1, a0_0, a0_1, a0_2, a0_3, a0_4, a1_0z, a1_0, a2, a3, a4z, a4, a5z, a5 => impl_BuildQc.b some (impl_BuildQc.l0 k) k a0_0 a0_1 a0_2 a0_3 a0_4 a1_0z a1_0 a2 a3 a4z a4 a5z a5
def impl_BuildQc.enc (r : Int × Int × Bool × (List Int) × Bool × (List Int) × Bool × (List T) × Bool) : Res := ⟨[.vals true [((.int .i64 r.1), true), ((.int .i64 r.2.1), true), ((.nums 5 .u8 r.2.2.1 r.2.2.2.1), true), ((.nums 5 .u8 r.2.2.2.2.1 r.2.2.2.2.2.1), true), ((.sl 22 r.2.2.2.2.2.2.1 r.2.2.2.2.2.2.2.1), true)], .vals false [((.bool r.2.2.2.2.2.2.2.2), true)]], []⟩
def impl_BuildQc.ans (k : Nat) : List Arg → Ans
  | [.v (.agg [(.int .i64 a0_0), (.int .i64 a0_1), (.int .i64 a0_2), (.int .i64 a0_3), (.int .i64 a0_4)]), .v (.agg [(.sl 44 a1_0z a1_0)]), .v (.int .i64 a2), .v (.int .i64 a3), .v (.nums 5 .u8 a4z a4), .v (.nums 5 .u8 a5z a5)] => ⟨impl_BuildQc.f k a0_0 a0_1 a0_2 a0_3 a0_4 a1_0z a1_0 a2 a3 a4z a4 a5z a5, impl_BuildQc.enc⟩
  | _ => Ans.no
def impl_BuildQc.Cs (k : Nat) : CallSem := tab [(87, impl_belongs.ans k), (88, impl_BitsOk.ans k), (89, impl_BitsList.ans k), (80, impl_copyBytes.ans k), (15, impl_SignVote.ans k), (90, impl_QcOk.ans k)]
def impl_BuildQc.cuts : List (Nat × Keep) := [(122, ⟨[(2, some []), (3, some []), (4, some []), (6, some []), (7, some []), (12, some []), (14, some []), (39, none), (40, some []), (41, some [])], [(6, [some [], some [], some [], some [], some []]), (7, [some []]), (12, [some [], some [], none, none, none]), (14, [some [], some [], none, none, none])]⟩)]
noncomputable def impl_BuildQc.K0 : List Fr := framesAt [true, true, true, false, true, false] (bodyOf Try.f23 impl_BuildQc.cuts) []
def impl_BuildQc.N0 (x2 : Int) (x3 : Int) (x4z : Bool) (x4 : List Int) (x39z : Bool) (x39 : List Int) (x40 : Int) (x41 : Int) (c6_0 : Int) (c6_1 : Int) (c6_2 : Int) (c6_3 : Int) (c6_4 : Int) (c7_0z : Bool) (c7_0 : List T) (c14_0 : Int) (c14_1 : Int) (c14_2z : Bool) (c14_2 : List Int) (c14_3z : Bool) (c14_3 : List Int) (c14_4z : Bool) (c14_4 : List T) : St := stOf 68 68 6 [(2, .val (V.s (.int .i64 x2))), (3, .val (V.s (.int .i64 x3))), (4, .val ⟨(.nums 5 .u8 x4z x4), [], false, none⟩), (6, .bp 6 0), (7, .bp 7 0), (12, .bp 12 0), (14, .bp 14 0), (39, .val ⟨(.nums 3 .i64 x39z x39), [.l 39 0], true, some (.l 39 0)⟩), (40, .val (V.s (.int .i64 x40))), (41, .val (V.s (.int .i64 x41)))] [(6, .cells [V.s (.int .i64 c6_0), V.s (.int .i64 c6_1), V.s (.int .i64 c6_2), V.s (.int .i64 c6_3), V.s (.int .i64 c6_4)]), (7, .cells [⟨(.sl 44 c7_0z c7_0), [], false, none⟩]), (12, .cells [V.s (.int .i64 0), V.s (.int .i64 0), ⟨(.nums 5 .u8 true ([] : List Int)), [.l 12 3], true, some (.l 12 3)⟩, ⟨(.nums 5 .u8 true ([] : List Int)), [.l 12 4], true, some (.l 12 4)⟩, ⟨(.sl 22 true ([] : List T)), [.l 12 5], true, some (.l 12 5)⟩]), (14, .cells [V.s (.int .i64 c14_0), V.s (.int .i64 c14_1), ⟨(.nums 5 .u8 c14_2z c14_2), [.l 14 3], true, some (.l 14 3)⟩, ⟨(.nums 5 .u8 c14_3z c14_3), [.l 14 4], true, some (.l 14 4)⟩, ⟨(.sl 22 c14_4z c14_4), [.l 14 5], true, some (.l 14 5)⟩])]
theorem impl_BuildQc.s (k : Nat) (a0_0 : Int) (a0_1 : Int) (a0_2 : Int) (a0_3 : Int) (a0_4 : Int) (a1_0z : Bool) (a1_0 : List T) (a2 : Int) (a3 : Int) (a4z : Bool) (a4 : List Int) (a5z : Bool) (a5 : List Int) : answer Try.prog impl_BuildQc.Cs 100000 impl_BuildQc.cuts [] Try.f23 (k + 1) [.v (.agg [(.int .i64 a0_0), (.int .i64 a0_1), (.int .i64 a0_2), (.int .i64 a0_3), (.int .i64 a0_4)]), .v (.agg [(.sl 44 a1_0z a1_0)]), .v (.int .i64 a2), .v (.int .i64 a3), .v (.nums 5 .u8 a4z a4), .v (.nums 5 .u8 a5z a5)] = impl_BuildQc.b (fun r => some (impl_BuildQc.enc r)) (fun x2 x3 x4z x4 x39z x39 x40 x41 c6_0 c6_1 c6_2 c6_3 c6_4 c7_0z c7_0 c14_0 c14_1 c14_2z c14_2 c14_3z c14_3 c14_4z c14_4 => rounds Try.prog impl_BuildQc.Cs (finish Try.prog [] Try.f23 [.v (.agg [(.int .i64 a0_0), (.int .i64 a0_1), (.int .i64 a0_2), (.int .i64 a0_3), (.int .i64 a0_4)]), .v (.agg [(.sl 44 a1_0z a1_0)]), .v (.int .i64 a2), .v (.int .i64 a3), .v (.nums 5 .u8 a4z a4), .v (.nums 5 .u8 a5z a5)]) 100000 k impl_BuildQc.K0 (impl_BuildQc.N0 x2 x3 x4z x4 x39z x39 x40 x41 c6_0 c6_1 c6_2 c6_3 c6_4 c7_0z c7_0 c14_0 c14_1 c14_2z c14_2 c14_3z c14_3 c14_4z c14_4)) k a0_0 a0_1 a0_2 a0_3 a0_4 a1_0z a1_0 a2 a3 a4z a4 a5z a5 := by kernel_rfl
theorem impl_BuildQc.s0 (k : Nat) (G : List Fr → St → Option Res) (a0_0 : Int) (a0_1 : Int) (a0_2 : Int) (a0_3 : Int) (a0_4 : Int) (a1_0z : Bool) (a1_0 : List T) (a2 : Int) (a3 : Int) (a4z : Bool) (a4 : List Int) (a5z : Bool) (a5 : List Int) (yx2 : Int) (yx3 : Int) (yx4z : Bool) (yx4 : List Int) (yx39z : Bool) (yx39 : List Int) (yx40 : Int) (yx41 : Int) (yc6_0 : Int) (yc6_1 : Int) (yc6_2 : Int) (yc6_3 : Int) (yc6_4 : Int) (yc7_0z : Bool) (yc7_0 : List T) (yc14_0 : Int) (yc14_1 : Int) (yc14_2z : Bool) (yc14_2 : List Int) (yc14_3z : Bool) (yc14_3 : List Int) (yc14_4z : Bool) (yc14_4 : List T) : resume Try.prog (impl_BuildQc.Cs k) G (finish Try.prog [] Try.f23 [.v (.agg [(.int .i64 a0_0), (.int .i64 a0_1), (.int .i64 a0_2), (.int .i64 a0_3), (.int .i64 a0_4)]), .v (.agg [(.sl 44 a1_0z a1_0)]), .v (.int .i64 a2), .v (.int .i64 a3), .v (.nums 5 .u8 a4z a4), .v (.nums 5 .u8 a5z a5)]) 100000 impl_BuildQc.K0 (impl_BuildQc.N0 yx2 yx3 yx4z yx4 yx39z yx39 yx40 yx41 yc6_0 yc6_1 yc6_2 yc6_3 yc6_4 yc7_0z yc7_0 yc14_0 yc14_1 yc14_2z yc14_2 yc14_3z yc14_3 yc14_4z yc14_4) = impl_BuildQc.l0b (fun r => some (impl_BuildQc.enc r)) (fun x2 x3 x4z x4 x39z x39 x40 x41 c6_0 c6_1 c6_2 c6_3 c6_4 c7_0z c7_0 c14_0 c14_1 c14_2z c14_2 c14_3z c14_3 c14_4z c14_4 => G impl_BuildQc.K0 (impl_BuildQc.N0 x2 x3 x4z x4 x39z x39 x40 x41 c6_0 c6_1 c6_2 c6_3 c6_4 c7_0z c7_0 c14_0 c14_1 c14_2z c14_2 c14_3z c14_3 c14_4z c14_4)) k yx2 yx3 yx4z yx4 yx39z yx39 yx40 yx41 yc6_0 yc6_1 yc6_2 yc6_3 yc6_4 yc7_0z yc7_0 yc14_0 yc14_1 yc14_2z yc14_2 yc14_3z yc14_3 yc14_4z yc14_4 := by kernel_rfl
theorem impl_BuildQc.b_nat {R R' : Type} (e : R → R') (ret : Int × Int × Bool × (List Int) × Bool × (List Int) × Bool × (List T) × Bool → Option R) (j0 : Int → Int → Bool → (List Int) → Bool → (List Int) → Int → Int → Int → Int → Int → Int → Int → Bool → (List T) → Int → Int → Bool → (List Int) → Bool → (List Int) → Bool → (List T) → Option R) (k : Nat) (a0_0 : Int) (a0_1 : Int) (a0_2 : Int) (a0_3 : Int) (a0_4 : Int) (a1_0z : Bool) (a1_0 : List T) (a2 : Int) (a3 : Int) (a4z : Bool) (a4 : List Int) (a5z : Bool) (a5 : List Int) : impl_BuildQc.b (fun r => (ret r).map e) (fun x2 x3 x4z x4 x39z x39 x40 x41 c6_0 c6_1 c6_2 c6_3 c6_4 c7_0z c7_0 c14_0 c14_1 c14_2z c14_2 c14_3z c14_3 c14_4z c14_4 => (j0 x2 x3 x4z x4 x39z x39 x40 x41 c6_0 c6_1 c6_2 c6_3 c6_4 c7_0z c7_0 c14_0 c14_1 c14_2z c14_2 c14_3z c14_3 c14_4z c14_4).map e) k a0_0 a0_1 a0_2 a0_3 a0_4 a1_0z a1_0 a2 a3 a4z a4 a5z a5 = (impl_BuildQc.b ret j0 k a0_0 a0_1 a0_2 a0_3 a0_4 a1_0z a1_0 a2 a3 a4z a4 a5z a5).map e := by
  unfold impl_BuildQc.b
  repeat' first | with_reducible refine nat_cond ?_ ?_ | with_reducible refine nat_bind fun _ => ?_ | rfl
theorem impl_BuildQc.l0b_nat {R R' : Type} (e : R → R') (ret : Int × Int × Bool × (List Int) × Bool × (List Int) × Bool × (List T) × Bool → Option R) (j0 : Int → Int → Bool → (List Int) → Bool → (List Int) → Int → Int → Int → Int → Int → Int → Int → Bool → (List T) → Int → Int → Bool → (List Int) → Bool → (List Int) → Bool → (List T) → Option R) (k : Nat) (x2 : Int) (x3 : Int) (x4z : Bool) (x4 : List Int) (x39z : Bool) (x39 : List Int) (x40 : Int) (x41 : Int) (c6_0 : Int) (c6_1 : Int) (c6_2 : Int) (c6_3 : Int) (c6_4 : Int) (c7_0z : Bool) (c7_0 : List T) (c14_0 : Int) (c14_1 : Int) (c14_2z : Bool) (c14_2 : List Int) (c14_3z : Bool) (c14_3 : List Int) (c14_4z : Bool) (c14_4 : List T) : impl_BuildQc.l0b (fun r => (ret r).map e) (fun x2 x3 x4z x4 x39z x39 x40 x41 c6_0 c6_1 c6_2 c6_3 c6_4 c7_0z c7_0 c14_0 c14_1 c14_2z c14_2 c14_3z c14_3 c14_4z c14_4 => (j0 x2 x3 x4z x4 x39z x39 x40 x41 c6_0 c6_1 c6_2 c6_3 c6_4 c7_0z c7_0 c14_0 c14_1 c14_2z c14_2 c14_3z c14_3 c14_4z c14_4).map e) k x2 x3 x4z x4 x39z x39 x40 x41 c6_0 c6_1 c6_2 c6_3 c6_4 c7_0z c7_0 c14_0 c14_1 c14_2z c14_2 c14_3z c14_3 c14_4z c14_4 = (impl_BuildQc.l0b ret j0 k x2 x3 x4z x4 x39z x39 x40 x41 c6_0 c6_1 c6_2 c6_3 c6_4 c7_0z c7_0 c14_0 c14_1 c14_2z c14_2 c14_3z c14_3 c14_4z c14_4).map e := by
  unfold impl_BuildQc.l0b
  repeat' first | with_reducible refine nat_cond ?_ ?_ | with_reducible refine nat_bind fun _ => ?_ | rfl
theorem impl_BuildQc.rounds_eq (a0_0 : Int) (a0_1 : Int) (a0_2 : Int) (a0_3 : Int) (a0_4 : Int) (a1_0z : Bool) (a1_0 : List T) (a2 : Int) (a3 : Int) (a4z : Bool) (a4 : List Int) (a5z : Bool) (a5 : List Int) : ∀ k, (∀ (x2 : Int) (x3 : Int) (x4z : Bool) (x4 : List Int) (x39z : Bool) (x39 : List Int) (x40 : Int) (x41 : Int) (c6_0 : Int) (c6_1 : Int) (c6_2 : Int) (c6_3 : Int) (c6_4 : Int) (c7_0z : Bool) (c7_0 : List T) (c14_0 : Int) (c14_1 : Int) (c14_2z : Bool) (c14_2 : List Int) (c14_3z : Bool) (c14_3 : List Int) (c14_4z : Bool) (c14_4 : List T), rounds Try.prog impl_BuildQc.Cs (finish Try.prog [] Try.f23 [.v (.agg [(.int .i64 a0_0), (.int .i64 a0_1), (.int .i64 a0_2), (.int .i64 a0_3), (.int .i64 a0_4)]), .v (.agg [(.sl 44 a1_0z a1_0)]), .v (.int .i64 a2), .v (.int .i64 a3), .v (.nums 5 .u8 a4z a4), .v (.nums 5 .u8 a5z a5)]) 100000 k impl_BuildQc.K0 (impl_BuildQc.N0 x2 x3 x4z x4 x39z x39 x40 x41 c6_0 c6_1 c6_2 c6_3 c6_4 c7_0z c7_0 c14_0 c14_1 c14_2z c14_2 c14_3z c14_3 c14_4z c14_4) = (impl_BuildQc.l0 k x2 x3 x4z x4 x39z x39 x40 x41 c6_0 c6_1 c6_2 c6_3 c6_4 c7_0z c7_0 c14_0 c14_1 c14_2z c14_2 c14_3z c14_3 c14_4z c14_4).map impl_BuildQc.enc)
  | 0 => fun _ _ _ _ _ _ _ _ _ _ _ _ _ _ _ _ _ _ _ _ _ _ _ => rfl
  | k + 1 => by
    have ih := impl_BuildQc.rounds_eq a0_0 a0_1 a0_2 a0_3 a0_4 a1_0z a1_0 a2 a3 a4z a4 a5z a5 k
    refine fun _ _ _ _ _ _ _ _ _ _ _ _ _ _ _ _ _ _ _ _ _ _ _ => ?_
    · refine (impl_BuildQc.s0 k _ a0_0 a0_1 a0_2 a0_3 a0_4 a1_0z a1_0 a2 a3 a4z a4 a5z a5 _ _ _ _ _ _ _ _ _ _ _ _ _ _ _ _ _ _ _ _ _ _ _).trans (Eq.trans ?_ (impl_BuildQc.l0b_nat impl_BuildQc.enc some (impl_BuildQc.l0 k) k _ _ _ _ _ _ _ _ _ _ _ _ _ _ _ _ _ _ _ _ _ _ _))
      simp only [ih, Option.map_some]
theorem impl_BuildQc.eq (k : Nat) (a0_0 : Int) (a0_1 : Int) (a0_2 : Int) (a0_3 : Int) (a0_4 : Int) (a1_0z : Bool) (a1_0 : List T) (a2 : Int) (a3 : Int) (a4z : Bool) (a4 : List Int) (a5z : Bool) (a5 : List Int) : answer Try.prog impl_BuildQc.Cs 100000 impl_BuildQc.cuts [] Try.f23 (k + 1) [.v (.agg [(.int .i64 a0_0), (.int .i64 a0_1), (.int .i64 a0_2), (.int .i64 a0_3), (.int .i64 a0_4)]), .v (.agg [(.sl 44 a1_0z a1_0)]), .v (.int .i64 a2), .v (.int .i64 a3), .v (.nums 5 .u8 a4z a4), .v (.nums 5 .u8 a5z a5)] = (impl_BuildQc.f (k + 1) a0_0 a0_1 a0_2 a0_3 a0_4 a1_0z a1_0 a2 a3 a4z a4 a5z a5).map impl_BuildQc.enc := by
  have ih := impl_BuildQc.rounds_eq a0_0 a0_1 a0_2 a0_3 a0_4 a1_0z a1_0 a2 a3 a4z a4 a5z a5 k
  refine (impl_BuildQc.s k a0_0 a0_1 a0_2 a0_3 a0_4 a1_0z a1_0 a2 a3 a4z a4 a5z a5).trans (Eq.trans ?_ (impl_BuildQc.b_nat impl_BuildQc.enc some (impl_BuildQc.l0 k) k a0_0 a0_1 a0_2 a0_3 a0_4 a1_0z a1_0 a2 a3 a4z a4 a5z a5))
  simp only [ih, Option.map_some]
theorem impl_BuildQc.sound (k : Nat) : SoundF Try.prog 23 (fun a => (impl_BuildQc.ans k a).val) := by
  refine sound_plain (fun args res h => ?_) (fun t n => rfl)
  unfold impl_BuildQc.ans at h
  dsimp only at h
  split at h
  · cases k with
    | zero => cases h
    | succ k =>
      unfold Ans.val at h
      rw [← impl_BuildQc.eq] at h
      exact answer_sound mixed Try.func23 _ _ _ (k + 1) (fun j _ => tab_sound (tab_cons (impl_belongs.sound j) (tab_cons (impl_BitsOk.sound j) (tab_cons (impl_BitsList.sound j) (tab_cons (impl_copyBytes.sound j) (tab_cons (impl_SignVote.sound j) (tab_cons (impl_QcOk.sound j) (tab_nil)))))))) _ _ h
  · exact (Ans.no_val h).elim

/-! loop.example/g00790/impl.LeaveBytes -/
def impl_LeaveBytes.b {R : Type} (ret : Bool × List Int → Option R) (k : Nat) (a0 : Int) (a1 : Int) : Option R :=
  (impl_numbers.f k 76 false ([a0, a1] : List Int)).bind fun t0 => ret (t0.1, t0.2)
def impl_LeaveBytes.f : Nat → Int → Int → Option (Bool × List Int)
  | 0, _, _ => none
  | k + 1, a0, a1 => impl_LeaveBytes.b some k a0 a1
def impl_LeaveBytes.enc (r : Bool × List Int) : Res := ⟨[.vals false [((.nums 5 .u8 r.1 r.2), true)]], []⟩
def impl_LeaveBytes.ans (k : Nat) : List Arg → Ans
  | [.v (.int .i64 a0), .v (.int .i64 a1)] => ⟨impl_LeaveBytes.f k a0 a1, impl_LeaveBytes.enc⟩
  | _ => Ans.no
def impl_LeaveBytes.Cs (k : Nat) : CallSem := tab [(84, impl_numbers.ans k)]
def impl_LeaveBytes.cuts : List (Nat × Keep) := []
theorem impl_LeaveBytes.s (k : Nat) (a0 : Int) (a1 : Int) : answer Try.prog impl_LeaveBytes.Cs 100000 impl_LeaveBytes.cuts [] Try.f21 (k + 1) [.v (.int .i64 a0), .v (.int .i64 a1)] = impl_LeaveBytes.b (fun r => some (impl_LeaveBytes.enc r)) k a0 a1 := by kernel_rfl
theorem impl_LeaveBytes.b_nat {R R' : Type} (e : R → R') (ret : Bool × List Int → Option R) (k : Nat) (a0 : Int) (a1 : Int) : impl_LeaveBytes.b (fun r => (ret r).map e) k a0 a1 = (impl_LeaveBytes.b ret k a0 a1).map e := by
  unfold impl_LeaveBytes.b
  repeat' first | with_reducible refine nat_cond ?_ ?_ | with_reducible refine nat_bind fun _ => ?_ | rfl
theorem impl_LeaveBytes.eq (k : Nat) (a0 : Int) (a1 : Int) : answer Try.prog impl_LeaveBytes.Cs 100000 impl_LeaveBytes.cuts [] Try.f21 (k + 1) [.v (.int .i64 a0), .v (.int .i64 a1)] = (impl_LeaveBytes.f (k + 1) a0 a1).map impl_LeaveBytes.enc := by
  refine (impl_LeaveBytes.s k a0 a1).trans (Eq.trans ?_ (impl_LeaveBytes.b_nat impl_LeaveBytes.enc some k a0 a1))
  simp only [Option.map_some]
theorem impl_LeaveBytes.sound (k : Nat) : SoundF Try.prog 21 (fun a => (impl_LeaveBytes.ans k a).val) := by
  refine sound_plain (fun args res h => ?_) (fun t n => rfl)
  unfold impl_LeaveBytes.ans at h
  dsimp only at h
  split at h
  · cases k with
    | zero => cases h
    | succ k =>
      unfold Ans.val at h
      rw [← impl_LeaveBytes.eq] at h
      exact answer_sound mixed Try.func21 _ _ _ (k + 1) (fun j _ => tab_sound (tab_cons (impl_numbers.sound j) (tab_nil))) _ _ h
  · exact (Ans.no_val h).elim

/-! loop.example/g00790/impl.SignLeave -/
def impl_SignLeave.b {R : Type} (ret : Int × Int × Bool × (List Int) × Bool → Option R) (k : Nat) (a0_0z : Bool) (a0_0 : List T) (a1 : Int) (a2 : Int) (a3 : Int) : Option R :=
  (impl_LeaveBytes.f k a1 a2).bind fun t0 => (impl_TableOk.f k a0_0z a0_0).bind fun t1 => cond (!t1) (ret (0, 0, true, ([] : List Int), false)) (cond t0.1 (ret (0, 0, true, ([] : List Int), false)) ((impl_within.f k a3 0 (RowKit.wrap64 (((a0_0).length : Int) - 1))).bind fun t2 => cond (!t2) (ret (0, 0, true, ([] : List Int), false)) (cond (decide (a2 ≥ a1)) (ret (0, 0, true, ([] : List Int), false)) (cond (decide ((0 : Int) ≤ a3)) (cond (decide (a3 < ((a0_0).length : Int))) ((impl_Mac.f k (((((a0_0).getD (a3).toNat .bad).cells.getD 1 .bad)).isNil) (((((a0_0).getD (a3).toNat .bad).cells.getD 1 .bad)).toNums) t0.1 t0.2).bind fun t3 => ret (a3, a2, t3.1, t3.2, true)) (none)) (none)))))
def impl_SignLeave.f : Nat → Bool → (List T) → Int → Int → Int → Option (Int × Int × Bool × (List Int) × Bool)
  | 0, _, _, _, _, _ => none
  | k + 1, a0_0z, a0_0, a1, a2, a3 => impl_SignLeave.b some k a0_0z a0_0 a1 a2 a3
def impl_SignLeave.enc (r : Int × Int × Bool × (List Int) × Bool) : Res := ⟨[.vals true [((.int .i64 r.1), true), ((.int .i64 r.2.1), true), ((.nums 5 .u8 r.2.2.1 r.2.2.2.1), true)], .vals false [((.bool r.2.2.2.2), true)]], []⟩
def impl_SignLeave.ans (k : Nat) : List Arg → Ans
  | [.v (.agg [(.sl 44 a0_0z a0_0)]), .v (.int .i64 a1), .v (.int .i64 a2), .v (.int .i64 a3)] => ⟨impl_SignLeave.f k a0_0z a0_0 a1 a2 a3, impl_SignLeave.enc⟩
  | _ => Ans.no
def impl_SignLeave.Cs (k : Nat) : CallSem := tab [(79, impl_within.ans k), (78, impl_TableOk.ans k), (81, impl_Mac.ans k), (21, impl_LeaveBytes.ans k)]
def impl_SignLeave.cuts : List (Nat × Keep) := []
theorem impl_SignLeave.s (k : Nat) (a0_0z : Bool) (a0_0 : List T) (a1 : Int) (a2 : Int) (a3 : Int) : answer Try.prog impl_SignLeave.Cs 100000 impl_SignLeave.cuts [] Try.f16 (k + 1) [.v (.agg [(.sl 44 a0_0z a0_0)]), .v (.int .i64 a1), .v (.int .i64 a2), .v (.int .i64 a3)] = impl_SignLeave.b (fun r => some (impl_SignLeave.enc r)) k a0_0z a0_0 a1 a2 a3 := by kernel_rfl
theorem impl_SignLeave.b_nat {R R' : Type} (e : R → R') (ret : Int × Int × Bool × (List Int) × Bool → Option R) (k : Nat) (a0_0z : Bool) (a0_0 : List T) (a1 : Int) (a2 : Int) (a3 : Int) : impl_SignLeave.b (fun r => (ret r).map e) k a0_0z a0_0 a1 a2 a3 = (impl_SignLeave.b ret k a0_0z a0_0 a1 a2 a3).map e := by
  unfold impl_SignLeave.b
  repeat' first | with_reducible refine nat_cond ?_ ?_ | with_reducible refine nat_bind fun _ => ?_ | rfl
theorem impl_SignLeave.eq (k : Nat) (a0_0z : Bool) (a0_0 : List T) (a1 : Int) (a2 : Int) (a3 : Int) : answer Try.prog impl_SignLeave.Cs 100000 impl_SignLeave.cuts [] Try.f16 (k + 1) [.v (.agg [(.sl 44 a0_0z a0_0)]), .v (.int .i64 a1), .v (.int .i64 a2), .v (.int .i64 a3)] = (impl_SignLeave.f (k + 1) a0_0z a0_0 a1 a2 a3).map impl_SignLeave.enc := by
  refine (impl_SignLeave.s k a0_0z a0_0 a1 a2 a3).trans (Eq.trans ?_ (impl_SignLeave.b_nat impl_SignLeave.enc some k a0_0z a0_0 a1 a2 a3))
  simp only [Option.map_some]
theorem impl_SignLeave.sound (k : Nat) : SoundF Try.prog 16 (fun a => (impl_SignLeave.ans k a).val) := by
  refine sound_plain (fun args res h => ?_) (fun t n => rfl)
  unfold impl_SignLeave.ans at h
  dsimp only at h
  split at h
  · cases k with
    | zero => cases h
    | succ k =>
      unfold Ans.val at h
      rw [← impl_SignLeave.eq] at h
      exact answer_sound mixed Try.func16 _ _ _ (k + 1) (fun j _ => tab_sound (tab_cons (impl_within.sound j) (tab_cons (impl_TableOk.sound j) (tab_cons (impl_Mac.sound j) (tab_cons (impl_LeaveBytes.sound j) (tab_nil)))))) _ _ h
  · exact (Ans.no_val h).elim

/-! loop.example/g00790/impl.TcOk -/
def impl_TcOk.b {R : Type} (ret : Bool → Option R) (j0 : Bool → (List T) → Int → Int → Int → Int → Int → Int → Int → Int → Bool → (List T) → Option R) (k : Nat) (a0_0 : Int) (a0_1 : Int) (a0_2 : Int) (a0_3 : Int) (a0_4 : Int) (a1_0 : Int) (a1_1z : Bool) (a1_1 : List T) : Option R :=
  j0 a1_1z a1_1 ((a1_1).length : Int) 0 a0_0 a0_1 a0_2 a0_3 a0_4 a1_0 a1_1z a1_1
def impl_TcOk.l0b {R : Type} (ret : Bool → Option R) (j0 : Bool → (List T) → Int → Int → Int → Int → Int → Int → Int → Int → Bool → (List T) → Option R) (k : Nat) (x8z : Bool) (x8 : List T) (x9 : Int) (x10 : Int) (c2_0 : Int) (c2_1 : Int) (c2_2 : Int) (c2_3 : Int) (c2_4 : Int) (c3_0 : Int) (c3_1z : Bool) (c3_1 : List T) : Option R :=
  cond (decide (x10 < x9)) (cond (decide ((0 : Int) ≤ x10)) (cond (decide (x10 < ((x8).length : Int))) ((impl_within.f k (((((x8).getD (x10).toNat .bad).cells.getD 0 .bad)).toInt) 0 (RowKit.wrap64 (c2_0 - 1))).bind fun t0 => cond (!t0) (ret false) (cond (decide (x10 > 0)) (cond (decide ((0 : Int) ≤ (RowKit.wrap64 (x10 - 1)))) (cond (decide ((RowKit.wrap64 (x10 - 1)) < ((c3_1).length : Int))) (cond (decide (((((x8).getD (x10).toNat .bad).cells.getD 0 .bad)).toInt ≤ ((((c3_1).getD ((RowKit.wrap64 (x10 - 1))).toNat .bad).cells.getD 0 .bad)).toInt)) (ret false) ((impl_within.f k (((((x8).getD (x10).toNat .bad).cells.getD 1 .bad)).toInt) 0 (RowKit.wrap64 (c3_0 - 1))).bind fun t1 => cond (!t1) (ret false) ((impl_areHashes.f k false ([(.nums 5 .u8 ((((x8).getD (x10).toNat .bad).cells.getD 2 .bad)).isNil ((((x8).getD (x10).toNat .bad).cells.getD 2 .bad)).toNums)] : List T)).bind fun t2 => cond (!t2) (ret false) (j0 x8z x8 x9 (RowKit.wrap64 (x10 + 1)) c2_0 c2_1 c2_2 c2_3 c2_4 c3_0 c3_1z c3_1)))) (none)) (none)) ((impl_within.f k (((((x8).getD (x10).toNat .bad).cells.getD 1 .bad)).toInt) 0 (RowKit.wrap64 (c3_0 - 1))).bind fun t1 => cond (!t1) (ret false) ((impl_areHashes.f k false ([(.nums 5 .u8 ((((x8).getD (x10).toNat .bad).cells.getD 2 .bad)).isNil ((((x8).getD (x10).toNat .bad).cells.getD 2 .bad)).toNums)] : List T)).bind fun t2 => cond (!t2) (ret false) (j0 x8z x8 x9 (RowKit.wrap64 (x10 + 1)) c2_0 c2_1 c2_2 c2_3 c2_4 c3_0 c3_1z c3_1))))) (none)) (none)) ((impl_LimitsOk.f k c2_0 c2_1 c2_2 c2_3 c2_4).bind fun t0 => cond t0 ((impl_isNum.f k c3_0).bind fun t1 => cond t1 (ret (decide (((c3_1).length : Int) ≤ c2_0))) (ret false)) (ret false))
def impl_TcOk.l0 : Nat → Bool → (List T) → Int → Int → Int → Int → Int → Int → Int → Int → Bool → (List T) → Option Bool
  | 0, _, _, _, _, _, _, _, _, _, _, _, _ => none
  | k + 1, x8z, x8, x9, x10, c2_0, c2_1, c2_2, c2_3, c2_4, c3_0, c3_1z, c3_1 => impl_TcOk.l0b some (impl_TcOk.l0 k) k x8z x8 x9 x10 c2_0 c2_1 c2_2 c2_3 c2_4 c3_0 c3_1z c3_1
def impl_TcOk.f : Nat → Int → Int → Int → Int → Int → Int → Bool → (List T) → Option Bool
  | 0, _, _, _, _, _, _, _, _ => none
  | k + 1, a0_0, a0_1, a0_2, a0_3, a0_4, a1_0, a1_1z, a1_1 => impl_TcOk.b some (impl_TcOk.l0 k) k a0_0 a0_1 a0_2 a0_3 a0_4 a1_0 a1_1z a1_1
def impl_TcOk.enc (r : Bool) : Res := ⟨[.vals false [((.bool r), true)]], []⟩
def impl_TcOk.ans (k : Nat) : List Arg → Ans
  | [.v (.agg [(.int .i64 a0_0), (.int .i64 a0_1), (.int .i64 a0_2), (.int .i64 a0_3), (.int .i64 a0_4)]), .v (.agg [(.int .i64 a1_0), (.sl 37 a1_1z a1_1)])] => ⟨impl_TcOk.f k a0_0 a0_1 a0_2 a0_3 a0_4 a1_0 a1_1z a1_1, impl_TcOk.enc⟩
  | _ => Ans.no
def impl_TcOk.Cs (k : Nat) : CallSem := tab [(92, impl_LimitsOk.ans k), (79, impl_within.ans k), (93, impl_isNum.ans k), (85, impl_areHashes.ans k)]
def impl_TcOk.cuts : List (Nat × Keep) := [(26, ⟨[(2, some []), (3, some []), (8, some []), (9, some []), (10, some [])], [(2, [some [], some [], some [], some [], some []]), (3, [some [], some []])]⟩)]
noncomputable def impl_TcOk.K0 : List Fr := framesAt [true, false, true, false] (bodyOf Try.f96 impl_TcOk.cuts) []
def impl_TcOk.N0 (x8z : Bool) (x8 : List T) (x9 : Int) (x10 : Int) (c2_0 : Int) (c2_1 : Int) (c2_2 : Int) (c2_3 : Int) (c2_4 : Int) (c3_0 : Int) (c3_1z : Bool) (c3_1 : List T) : St := stOf 70 70 2 [(2, .bp 2 0), (3, .bp 3 0), (8, .val ⟨(.sl 37 x8z x8), [], false, none⟩), (9, .val (V.s (.int .i64 x9))), (10, .val (V.s (.int .i64 x10)))] [(2, .cells [V.s (.int .i64 c2_0), V.s (.int .i64 c2_1), V.s (.int .i64 c2_2), V.s (.int .i64 c2_3), V.s (.int .i64 c2_4)]), (3, .cells [V.s (.int .i64 c3_0), ⟨(.sl 37 c3_1z c3_1), [], false, none⟩])]
theorem impl_TcOk.s (k : Nat) (a0_0 : Int) (a0_1 : Int) (a0_2 : Int) (a0_3 : Int) (a0_4 : Int) (a1_0 : Int) (a1_1z : Bool) (a1_1 : List T) : answer Try.prog impl_TcOk.Cs 100000 impl_TcOk.cuts [] Try.f96 (k + 1) [.v (.agg [(.int .i64 a0_0), (.int .i64 a0_1), (.int .i64 a0_2), (.int .i64 a0_3), (.int .i64 a0_4)]), .v (.agg [(.int .i64 a1_0), (.sl 37 a1_1z a1_1)])] = impl_TcOk.b (fun r => some (impl_TcOk.enc r)) (fun x8z x8 x9 x10 c2_0 c2_1 c2_2 c2_3 c2_4 c3_0 c3_1z c3_1 => rounds Try.prog impl_TcOk.Cs (finish Try.prog [] Try.f96 [.v (.agg [(.int .i64 a0_0), (.int .i64 a0_1), (.int .i64 a0_2), (.int .i64 a0_3), (.int .i64 a0_4)]), .v (.agg [(.int .i64 a1_0), (.sl 37 a1_1z a1_1)])]) 100000 k impl_TcOk.K0 (impl_TcOk.N0 x8z x8 x9 x10 c2_0 c2_1 c2_2 c2_3 c2_4 c3_0 c3_1z c3_1)) k a0_0 a0_1 a0_2 a0_3 a0_4 a1_0 a1_1z a1_1 := by kernel_rfl
theorem impl_TcOk.s0 (k : Nat) (G : List Fr → St → Option Res) (a0_0 : Int) (a0_1 : Int) (a0_2 : Int) (a0_3 : Int) (a0_4 : Int) (a1_0 : Int) (a1_1z : Bool) (a1_1 : List T) (yx8z : Bool) (yx8 : List T) (yx9 : Int) (yx10 : Int) (yc2_0 : Int) (yc2_1 : Int) (yc2_2 : Int) (yc2_3 : Int) (yc2_4 : Int) (yc3_0 : Int) (yc3_1z : Bool) (yc3_1 : List T) : resume Try.prog (impl_TcOk.Cs k) G (finish Try.prog [] Try.f96 [.v (.agg [(.int .i64 a0_0), (.int .i64 a0_1), (.int .i64 a0_2), (.int .i64 a0_3), (.int .i64 a0_4)]), .v (.agg [(.int .i64 a1_0), (.sl 37 a1_1z a1_1)])]) 100000 impl_TcOk.K0 (impl_TcOk.N0 yx8z yx8 yx9 yx10 yc2_0 yc2_1 yc2_2 yc2_3 yc2_4 yc3_0 yc3_1z yc3_1) = impl_TcOk.l0b (fun r => some (impl_TcOk.enc r)) (fun x8z x8 x9 x10 c2_0 c2_1 c2_2 c2_3 c2_4 c3_0 c3_1z c3_1 => G impl_TcOk.K0 (impl_TcOk.N0 x8z x8 x9 x10 c2_0 c2_1 c2_2 c2_3 c2_4 c3_0 c3_1z c3_1)) k yx8z yx8 yx9 yx10 yc2_0 yc2_1 yc2_2 yc2_3 yc2_4 yc3_0 yc3_1z yc3_1 := by kernel_rfl
theorem impl_TcOk.b_nat {R R' : Type} (e : R → R') (ret : Bool → Option R) (j0 : Bool → (List T) → Int → Int → Int → Int → Int → Int → Int → Int → Bool → (List T) → Option R) (k : Nat) (a0_0 : Int) (a0_1 : Int) (a0_2 : Int) (a0_3 : Int) (a0_4 : Int) (a1_0 : Int) (a1_1z : Bool) (a1_1 : List T) : impl_TcOk.b (fun r => (ret r).map e) (fun x8z x8 x9 x10 c2_0 c2_1 c2_2 c2_3 c2_4 c3_0 c3_1z c3_1 => (j0 x8z x8 x9 x10 c2_0 c2_1 c2_2 c2_3 c2_4 c3_0 c3_1z c3_1).map e) k a0_0 a0_1 a0_2 a0_3 a0_4 a1_0 a1_1z a1_1 = (impl_TcOk.b ret j0 k a0_0 a0_1 a0_2 a0_3 a0_4 a1_0 a1_1z a1_1).map e := by
  unfold impl_TcOk.b
  repeat' first | with_reducible refine nat_cond ?_ ?_ | with_reducible refine nat_bind fun _ => ?_ | rfl
theorem impl_TcOk.l0b_nat {R R' : Type} (e : R → R') (ret : Bool → Option R) (j0 : Bool → (List T) → Int → Int → Int → Int → Int → Int → Int → Int → Bool → (List T) → Option R) (k : Nat) (x8z : Bool) (x8 : List T) (x9 : Int) (x10 : Int) (c2_0 : Int) (c2_1 : Int) (c2_2 : Int) (c2_3 : Int) (c2_4 : Int) (c3_0 : Int) (c3_1z : Bool) (c3_1 : List T) : impl_TcOk.l0b (fun r => (ret r).map e) (fun x8z x8 x9 x10 c2_0 c2_1 c2_2 c2_3 c2_4 c3_0 c3_1z c3_1 => (j0 x8z x8 x9 x10 c2_0 c2_1 c2_2 c2_3 c2_4 c3_0 c3_1z c3_1).map e) k x8z x8 x9 x10 c2_0 c2_1 c2_2 c2_3 c2_4 c3_0 c3_1z c3_1 = (impl_TcOk.l0b ret j0 k x8z x8 x9 x10 c2_0 c2_1 c2_2 c2_3 c2_4 c3_0 c3_1z c3_1).map e := by
  unfold impl_TcOk.l0b
  repeat' first | with_reducible refine nat_cond ?_ ?_ | with_reducible refine nat_bind fun _ => ?_ | rfl
theorem impl_TcOk.rounds_eq (a0_0 : Int) (a0_1 : Int) (a0_2 : Int) (a0_3 : Int) (a0_4 : Int) (a1_0 : Int) (a1_1z : Bool) (a1_1 : List T) : ∀ k, (∀ (x8z : Bool) (x8 : List T) (x9 : Int) (x10 : Int) (c2_0 : Int) (c2_1 : Int) (c2_2 : Int) (c2_3 : Int) (c2_4 : Int) (c3_0 : Int) (c3_1z : Bool) (c3_1 : List T), rounds Try.prog impl_TcOk.Cs (finish Try.prog [] Try.f96 [.v (.agg [(.int .i64 a0_0), (.int .i64 a0_1), (.int .i64 a0_2), (.int .i64 a0_3), (.int .i64 a0_4)]), .v (.agg [(.int .i64 a1_0), (.sl 37 a1_1z a1_1)])]) 100000 k impl_TcOk.K0 (impl_TcOk.N0 x8z x8 x9 x10 c2_0 c2_1 c2_2 c2_3 c2_4 c3_0 c3_1z c3_1) = (impl_TcOk.l0 k x8z x8 x9 x10 c2_0 c2_1 c2_2 c2_3 c2_4 c3_0 c3_1z c3_1).map impl_TcOk.enc)
  | 0 => fun _ _ _ _ _ _ _ _ _ _ _ _ => rfl
  | k + 1 => by
    have ih := impl_TcOk.rounds_eq a0_0 a0_1 a0_2 a0_3 a0_4 a1_0 a1_1z a1_1 k
    refine fun _ _ _ _ _ _ _ _ _ _ _ _ => ?_
    · refine (impl_TcOk.s0 k _ a0_0 a0_1 a0_2 a0_3 a0_4 a1_0 a1_1z a1_1 _ _ _ _ _ _ _ _ _ _ _ _).trans (Eq.trans ?_ (impl_TcOk.l0b_nat impl_TcOk.enc some (impl_TcOk.l0 k) k _ _ _ _ _ _ _ _ _ _ _ _))
      simp only [ih, Option.map_some]
theorem impl_TcOk.eq (k : Nat) (a0_0 : Int) (a0_1 : Int) (a0_2 : Int) (a0_3 : Int) (a0_4 : Int) (a1_0 : Int) (a1_1z : Bool) (a1_1 : List T) : answer Try.prog impl_TcOk.Cs 100000 impl_TcOk.cuts [] Try.f96 (k + 1) [.v (.agg [(.int .i64 a0_0), (.int .i64 a0_1), (.int .i64 a0_2), (.int .i64 a0_3), (.int .i64 a0_4)]), .v (.agg [(.int .i64 a1_0), (.sl 37 a1_1z a1_1)])] = (impl_TcOk.f (k + 1) a0_0 a0_1 a0_2 a0_3 a0_4 a1_0 a1_1z a1_1).map impl_TcOk.enc := by
  have ih := impl_TcOk.rounds_eq a0_0 a0_1 a0_2 a0_3 a0_4 a1_0 a1_1z a1_1 k
  refine (impl_TcOk.s k a0_0 a0_1 a0_2 a0_3 a0_4 a1_0 a1_1z a1_1).trans (Eq.trans ?_ (impl_TcOk.b_nat impl_TcOk.enc some (impl_TcOk.l0 k) k a0_0 a0_1 a0_2 a0_3 a0_4 a1_0 a1_1z a1_1))
  simp only [ih, Option.map_some]
theorem impl_TcOk.sound (k : Nat) : SoundF Try.prog 96 (fun a => (impl_TcOk.ans k a).val) := by
  refine sound_plain (fun args res h => ?_) (fun t n => rfl)
  unfold impl_TcOk.ans at h
  dsimp only at h
  split at h
  · cases k with
    | zero => cases h
    | succ k =>
      unfold Ans.val at h
      rw [← impl_TcOk.eq] at h
      exact answer_sound mixed Try.func96 _ _ _ (k + 1) (fun j _ => tab_sound (tab_cons (impl_LimitsOk.sound j) (tab_cons (impl_within.sound j) (tab_cons (impl_isNum.sound j) (tab_cons (impl_areHashes.sound j) (tab_nil)))))) _ _ h
  · exact (Ans.no_val h).elim

/-! loop.example/g00790/impl.BuildTc -/
def impl_BuildTc.b {R : Type} (ret : Int × Bool × (List T) × Bool → Option R) (j0 : Int → Int → Bool → (List Int) → Int → Int → Int → Int → Int → Int → Int → Bool → (List T) → Int → Bool → (List T) → Option R) (k : Nat) (a0_0 : Int) (a0_1 : Int) (a0_2 : Int) (a0_3 : Int) (a0_4 : Int) (a1_0z : Bool) (a1_0 : List T) (a2 : Int) (a3 : Int) (a4z : Bool) (a4 : List Int) : Option R :=
  (impl_belongs.f k a0_0 a0_1 a0_2 a0_3 a0_4 a1_0z a1_0).bind fun t0 => cond (!t0) (ret (0, true, ([] : List T), false)) ((impl_BitsOk.f k a4z a4 a0_0).bind fun t1 => cond (!t1) (ret (0, true, ([] : List T), false)) ((impl_BitsList.f k a4z a4).bind fun t2 => j0 a2 a3 t2.1 t2.2 ((t2.2).length : Int) 0 a0_0 a0_1 a0_2 a0_3 a0_4 a1_0z a1_0 a2 true ([] : List T)))
def impl_BuildTc.l0b {R : Type} (ret : Int × Bool × (List T) × Bool → Option R) (j0 : Int → Int → Bool → (List Int) → Int → Int → Int → Int → Int → Int → Int → Bool → (List T) → Int → Bool → (List T) → Option R) (k : Nat) (x2 : Int) (x3 : Int) (x32z : Bool) (x32 : List Int) (x33 : Int) (x34 : Int) (c5_0 : Int) (c5_1 : Int) (c5_2 : Int) (c5_3 : Int) (c5_4 : Int) (c6_0z : Bool) (c6_0 : List T) (c12_0 : Int) (c12_1z : Bool) (c12_1 : List T) : Option R :=
  cond (decide (x34 < x33)) (cond (decide ((0 : Int) ≤ x34)) (cond (decide (x34 < ((x32).length : Int))) ((impl_SignLeave.f k c6_0z c6_0 x2 x3 (rdI x32 x34)).bind fun t0 => cond (!t0.2.2.2.2) (ret (0, true, ([] : List T), false)) (cond (decide ((c12_1).length + 1 < 3518437208883)) (j0 x2 x3 x32z x32 x33 (RowKit.wrap64 (x34 + 1)) c5_0 c5_1 c5_2 c5_3 c5_4 c6_0z c6_0 c12_0 false (c12_1 ++ ([(.agg [(.int .i64 t0.1), (.int .i64 t0.2.1), (.nums 5 .u8 t0.2.2.1 t0.2.2.2.1)])] : List T))) (none))) (none)) (none)) ((impl_TcOk.f k c5_0 c5_1 c5_2 c5_3 c5_4 c12_0 c12_1z c12_1).bind fun t0 => cond (!t0) (ret (0, true, ([] : List T), false)) (ret (c12_0, c12_1z, c12_1, true)))
def impl_BuildTc.l0 : Nat → Int → Int → Bool → (List Int) → Int → Int → Int → Int → Int → Int → Int → Bool → (List T) → Int → Bool → (List T) → Option (Int × Bool × (List T) × Bool)
  | 0, _, _, _, _, _, _, _, _, _, _, _, _, _, _, _, _ => none
  | k + 1, x2, x3, x32z, x32, x33, x34, c5_0, c5_1, c5_2, c5_3, c5_4, c6_0z, c6_0, c12_0, c12_1z, c12_1 => impl_BuildTc.l0b some (impl_BuildTc.l0 k) k x2 x3 x32z x32 x33 x34 c5_0 c5_1 c5_2 c5_3 c5_4 c6_0z c6_0 c12_0 c12_1z c12_1
def impl_BuildTc.f : Nat → Int → Int → Int → Int → Int → Bool → (List T) → Int → Int → Bool → (List Int) → Option (Int × Bool × (List T) × Bool)
  | 0, _, _, _, _, _, _, _, _, _, _, _ => none
  | k + 1, a0_0, a0_1, a0_2, a0_3, a0_4, a1_0z, a1_0, a2, a3, a4z, a4 => impl_BuildTc.b some (impl_BuildTc.l0 k) k a0_0 a0_1 a0_2 a0_3 a0_4 a1_0z a1_0 a2 a3 a4z a4
def impl_BuildTc.enc (r : Int × Bool × (List T) × Bool) : Res := ⟨[.vals true [((.int .i64 r.1), true), ((.sl 37 r.2.1 r.2.2.1), true)], .vals false [((.bool r.2.2.2), true)]], []⟩
def impl_BuildTc.ans (k : Nat) : List Arg → Ans
  | [.v (.agg [(.int .i64 a0_0), (.int .i64 a0_1), (.int .i64 a0_2), (.int .i64 a0_3), (.int .i64 a0_4)]), .v (.agg [(.sl 44 a1_0z a1_0)]), .v (.int .i64 a2), .v (.int .i64 a3), .v (.nums 5 .u8 a4z a4)] => ⟨impl_BuildTc.f k a0_0 a0_1 a0_2 a0_3 a0_4 a1_0z a1_0 a2 a3 a4z a4, impl_BuildTc.enc⟩
  | _ => Ans.no
def impl_BuildTc.Cs (k : Nat) : CallSem := tab [(87, impl_belongs.ans k), (88, impl_BitsOk.ans k), (89, impl_BitsList.ans k), (16, impl_SignLeave.ans k), (96, impl_TcOk.ans k)]
def impl_BuildTc.cuts : List (Nat × Keep) := [(122, ⟨[(2, some []), (3, some []), (5, some []), (6, some []), (10, some []), (12, some []), (32, none), (33, some []), (34, some [])], [(5, [some [], some [], some [], some [], some []]), (6, [some []]), (10, [some [], none]), (12, [some [], none])]⟩)]
noncomputable def impl_BuildTc.K0 : List Fr := framesAt [true, true, true, false, true, false] (bodyOf Try.f29 impl_BuildTc.cuts) []
def impl_BuildTc.N0 (x2 : Int) (x3 : Int) (x32z : Bool) (x32 : List Int) (x33 : Int) (x34 : Int) (c5_0 : Int) (c5_1 : Int) (c5_2 : Int) (c5_3 : Int) (c5_4 : Int) (c6_0z : Bool) (c6_0 : List T) (c12_0 : Int) (c12_1z : Bool) (c12_1 : List T) : St := stOf 62 62 5 [(2, .val (V.s (.int .i64 x2))), (3, .val (V.s (.int .i64 x3))), (5, .bp 5 0), (6, .bp 6 0), (10, .bp 10 0), (12, .bp 12 0), (32, .val ⟨(.nums 3 .i64 x32z x32), [.l 32 0], true, some (.l 32 0)⟩), (33, .val (V.s (.int .i64 x33))), (34, .val (V.s (.int .i64 x34)))] [(5, .cells [V.s (.int .i64 c5_0), V.s (.int .i64 c5_1), V.s (.int .i64 c5_2), V.s (.int .i64 c5_3), V.s (.int .i64 c5_4)]), (6, .cells [⟨(.sl 44 c6_0z c6_0), [], false, none⟩]), (10, .cells [V.s (.int .i64 0), ⟨(.sl 37 true ([] : List T)), [.l 10 2], true, some (.l 10 2)⟩]), (12, .cells [V.s (.int .i64 c12_0), ⟨(.sl 37 c12_1z c12_1), [.l 12 2], true, some (.l 12 2)⟩])]
theorem impl_BuildTc.s (k : Nat) (a0_0 : Int) (a0_1 : Int) (a0_2 : Int) (a0_3 : Int) (a0_4 : Int) (a1_0z : Bool) (a1_0 : List T) (a2 : Int) (a3 : Int) (a4z : Bool) (a4 : List Int) : answer Try.prog impl_BuildTc.Cs 100000 impl_BuildTc.cuts [] Try.f29 (k + 1) [.v (.agg [(.int .i64 a0_0), (.int .i64 a0_1), (.int .i64 a0_2), (.int .i64 a0_3), (.int .i64 a0_4)]), .v (.agg [(.sl 44 a1_0z a1_0)]), .v (.int .i64 a2), .v (.int .i64 a3), .v (.nums 5 .u8 a4z a4)] = impl_BuildTc.b (fun r => some (impl_BuildTc.enc r)) (fun x2 x3 x32z x32 x33 x34 c5_0 c5_1 c5_2 c5_3 c5_4 c6_0z c6_0 c12_0 c12_1z c12_1 => rounds Try.prog impl_BuildTc.Cs (finish Try.prog [] Try.f29 [.v (.agg [(.int .i64 a0_0), (.int .i64 a0_1), (.int .i64 a0_2), (.int .i64 a0_3), (.int .i64 a0_4)]), .v (.agg [(.sl 44 a1_0z a1_0)]), .v (.int .i64 a2), .v (.int .i64 a3), .v (.nums 5 .u8 a4z a4)]) 100000 k impl_BuildTc.K0 (impl_BuildTc.N0 x2 x3 x32z x32 x33 x34 c5_0 c5_1 c5_2 c5_3 c5_4 c6_0z c6_0 c12_0 c12_1z c12_1)) k a0_0 a0_1 a0_2 a0_3 a0_4 a1_0z a1_0 a2 a3 a4z a4 := by kernel_rfl
theorem impl_BuildTc.s0 (k : Nat) (G : List Fr → St → Option Res) (a0_0 : Int) (a0_1 : Int) (a0_2 : Int) (a0_3 : Int) (a0_4 : Int) (a1_0z : Bool) (a1_0 : List T) (a2 : Int) (a3 : Int) (a4z : Bool) (a4 : List Int) (yx2 : Int) (yx3 : Int) (yx32z : Bool) (yx32 : List Int) (yx33 : Int) (yx34 : Int) (yc5_0 : Int) (yc5_1 : Int) (yc5_2 : Int) (yc5_3 : Int) (yc5_4 : Int) (yc6_0z : Bool) (yc6_0 : List T) (yc12_0 : Int) (yc12_1z : Bool) (yc12_1 : List T) : resume Try.prog (impl_BuildTc.Cs k) G (finish Try.prog [] Try.f29 [.v (.agg [(.int .i64 a0_0), (.int .i64 a0_1), (.int .i64 a0_2), (.int .i64 a0_3), (.int .i64 a0_4)]), .v (.agg [(.sl 44 a1_0z a1_0)]), .v (.int .i64 a2), .v (.int .i64 a3), .v (.nums 5 .u8 a4z a4)]) 100000 impl_BuildTc.K0 (impl_BuildTc.N0 yx2 yx3 yx32z yx32 yx33 yx34 yc5_0 yc5_1 yc5_2 yc5_3 yc5_4 yc6_0z yc6_0 yc12_0 yc12_1z yc12_1) = impl_BuildTc.l0b (fun r => some (impl_BuildTc.enc r)) (fun x2 x3 x32z x32 x33 x34 c5_0 c5_1 c5_2 c5_3 c5_4 c6_0z c6_0 c12_0 c12_1z c12_1 => G impl_BuildTc.K0 (impl_BuildTc.N0 x2 x3 x32z x32 x33 x34 c5_0 c5_1 c5_2 c5_3 c5_4 c6_0z c6_0 c12_0 c12_1z c12_1)) k yx2 yx3 yx32z yx32 yx33 yx34 yc5_0 yc5_1 yc5_2 yc5_3 yc5_4 yc6_0z yc6_0 yc12_0 yc12_1z yc12_1 := by kernel_rfl
theorem impl_BuildTc.b_nat {R R' : Type} (e : R → R') (ret : Int × Bool × (List T) × Bool → Option R) (j0 : Int → Int → Bool → (List Int) → Int → Int → Int → Int → Int → Int → Int → Bool → (List T) → Int → Bool → (List T) → Option R) (k : Nat) (a0_0 : Int) (a0_1 : Int) (a0_2 : Int) (a0_3 : Int) (a0_4 : Int) (a1_0z : Bool) (a1_0 : List T) (a2 : Int) (a3 : Int) (a4z : Bool) (a4 : List Int) : impl_BuildTc.b (fun r => (ret r).map e) (fun x2 x3 x32z x32 x33 x34 c5_0 c5_1 c5_2 c5_3 c5_4 c6_0z c6_0 c12_0 c12_1z c12_1 => (j0 x2 x3 x32z x32 x33 x34 c5_0 c5_1 c5_2 c5_3 c5_4 c6_0z c6_0 c12_0 c12_1z c12_1).map e) k a0_0 a0_1 a0_2 a0_3 a0_4 a1_0z a1_0 a2 a3 a4z a4 = (impl_BuildTc.b ret j0 k a0_0 a0_1 a0_2 a0_3 a0_4 a1_0z a1_0 a2 a3 a4z a4).map e := by
  unfold impl_BuildTc.b
  repeat' first | with_reducible refine nat_cond ?_ ?_ | with_reducible refine nat_bind fun _ => ?_ | rfl
theorem impl_BuildTc.l0b_nat {R R' : Type} (e : R → R') (ret : Int × Bool × (List T) × Bool → Option R) (j0 : Int → Int → Bool → (List Int) → Int → Int → Int → Int → Int → Int → Int → Bool → (List T) → Int → Bool → (List T) → Option R) (k : Nat) (x2 : Int) (x3 : Int) (x32z : Bool) (x32 : List Int) (x33 : Int) (x34 : Int) (c5_0 : Int) (c5_1 : Int) (c5_2 : Int) (c5_3 : Int) (c5_4 : Int) (c6_0z : Bool) (c6_0 : List T) (c12_0 : Int) (c12_1z : Bool) (c12_1 : List T) : impl_BuildTc.l0b (fun r => (ret r).map e) (fun x2 x3 x32z x32 x33 x34 c5_0 c5_1 c5_2 c5_3 c5_4 c6_0z c6_0 c12_0 c12_1z c12_1 => (j0 x2 x3 x32z x32 x33 x34 c5_0 c5_1 c5_2 c5_3 c5_4 c6_0z c6_0 c12_0 c12_1z c12_1).map e) k x2 x3 x32z x32 x33 x34 c5_0 c5_1 c5_2 c5_3 c5_4 c6_0z c6_0 c12_0 c12_1z c12_1 = (impl_BuildTc.l0b ret j0 k x2 x3 x32z x32 x33 x34 c5_0 c5_1 c5_2 c5_3 c5_4 c6_0z c6_0 c12_0 c12_1z c12_1).map e := by
  unfold impl_BuildTc.l0b
  repeat' first | with_reducible refine nat_cond ?_ ?_ | with_reducible refine nat_bind fun _ => ?_ | rfl
theorem impl_BuildTc.rounds_eq (a0_0 : Int) (a0_1 : Int) (a0_2 : Int) (a0_3 : Int) (a0_4 : Int) (a1_0z : Bool) (a1_0 : List T) (a2 : Int) (a3 : Int) (a4z : Bool) (a4 : List Int) : ∀ k, (∀ (x2 : Int) (x3 : Int) (x32z : Bool) (x32 : List Int) (x33 : Int) (x34 : Int) (c5_0 : Int) (c5_1 : Int) (c5_2 : Int) (c5_3 : Int) (c5_4 : Int) (c6_0z : Bool) (c6_0 : List T) (c12_0 : Int) (c12_1z : Bool) (c12_1 : List T), rounds Try.prog impl_BuildTc.Cs (finish Try.prog [] Try.f29 [.v (.agg [(.int .i64 a0_0), (.int .i64 a0_1), (.int .i64 a0_2), (.int .i64 a0_3), (.int .i64 a0_4)]), .v (.agg [(.sl 44 a1_0z a1_0)]), .v (.int .i64 a2), .v (.int .i64 a3), .v (.nums 5 .u8 a4z a4)]) 100000 k impl_BuildTc.K0 (impl_BuildTc.N0 x2 x3 x32z x32 x33 x34 c5_0 c5_1 c5_2 c5_3 c5_4 c6_0z c6_0 c12_0 c12_1z c12_1) = (impl_BuildTc.l0 k x2 x3 x32z x32 x33 x34 c5_0 c5_1 c5_2 c5_3 c5_4 c6_0z c6_0 c12_0 c12_1z c12_1).map impl_BuildTc.enc)
  | 0 => fun _ _ _ _ _ _ _ _ _ _ _ _ _ _ _ _ => rfl
  | k + 1 => by
    have ih := impl_BuildTc.rounds_eq a0_0 a0_1 a0_2 a0_3 a0_4 a1_0z a1_0 a2 a3 a4z a4 k
    refine fun _ _ _ _ _ _ _ _ _ _ _ _ _ _ _ _ => ?_
    · refine (impl_BuildTc.s0 k _ a0_0 a0_1 a0_2 a0_3 a0_4 a1_0z a1_0 a2 a3 a4z a4 _ _ _ _ _ _ _ _ _ _ _ _ _ _ _ _).trans (Eq.trans ?_ (impl_BuildTc.l0b_nat impl_BuildTc.enc some (impl_BuildTc.l0 k) k _ _ _ _ _ _ _ _ _ _ _ _ _ _ _ _))
      simp only [ih, Option.map_some]
theorem impl_BuildTc.eq (k : Nat) (a0_0 : Int) (a0_1 : Int) (a0_2 : Int) (a0_3 : Int) (a0_4 : Int) (a1_0z : Bool) (a1_0 : List T) (a2 : Int) (a3 : Int) (a4z : Bool) (a4 : List Int) : answer Try.prog impl_BuildTc.Cs 100000 impl_BuildTc.cuts [] Try.f29 (k + 1) [.v (.agg [(.int .i64 a0_0), (.int .i64 a0_1), (.int .i64 a0_2), (.int .i64 a0_3), (.int .i64 a0_4)]), .v (.agg [(.sl 44 a1_0z a1_0)]), .v (.int .i64 a2), .v (.int .i64 a3), .v (.nums 5 .u8 a4z a4)] = (impl_BuildTc.f (k + 1) a0_0 a0_1 a0_2 a0_3 a0_4 a1_0z a1_0 a2 a3 a4z a4).map impl_BuildTc.enc := by
  have ih := impl_BuildTc.rounds_eq a0_0 a0_1 a0_2 a0_3 a0_4 a1_0z a1_0 a2 a3 a4z a4 k
  refine (impl_BuildTc.s k a0_0 a0_1 a0_2 a0_3 a0_4 a1_0z a1_0 a2 a3 a4z a4).trans (Eq.trans ?_ (impl_BuildTc.b_nat impl_BuildTc.enc some (impl_BuildTc.l0 k) k a0_0 a0_1 a0_2 a0_3 a0_4 a1_0z a1_0 a2 a3 a4z a4))
  simp only [ih, Option.map_some]
theorem impl_BuildTc.sound (k : Nat) : SoundF Try.prog 29 (fun a => (impl_BuildTc.ans k a).val) := by
  refine sound_plain (fun args res h => ?_) (fun t n => rfl)
  unfold impl_BuildTc.ans at h
  dsimp only at h
  split at h
  · cases k with
    | zero => cases h
    | succ k =>
      unfold Ans.val at h
      rw [← impl_BuildTc.eq] at h
      exact answer_sound mixed Try.func29 _ _ _ (k + 1) (fun j _ => tab_sound (tab_cons (impl_belongs.sound j) (tab_cons (impl_BitsOk.sound j) (tab_cons (impl_BitsList.sound j) (tab_cons (impl_SignLeave.sound j) (tab_cons (impl_TcOk.sound j) (tab_nil))))))) _ _ h
  · exact (Ans.no_val h).elim

/-! loop.example/g00790/impl.BitsNew -/
def impl_BitsNew.b {R : Type} (ret : Bool × List Int → Option R) (k : Nat) (a0 : Int) : Option R :=
  (impl_within.f k a0 1 10).bind fun t0 => cond (!t0) (ret (true, ([] : List Int))) ((impl_BitsSize.f k a0).bind fun t1 => cond (decide (t1 = t1)) (cond (decide ((0 : Int) ≤ t1)) (cond (decide ((t1).toNat < 140737488355328)) (ret (false, (List.replicate (t1).toNat (0 : Int)))) (none)) (none)) (none))
def impl_BitsNew.f : Nat → Int → Option (Bool × List Int)
  | 0, _ => none
  | k + 1, a0 => impl_BitsNew.b some k a0
def impl_BitsNew.enc (r : Bool × List Int) : Res := ⟨[.vals false [((.nums 5 .u8 r.1 r.2), true)]], []⟩
def impl_BitsNew.ans (k : Nat) : List Arg → Ans
  | [.v (.int .i64 a0)] => ⟨impl_BitsNew.f k a0, impl_BitsNew.enc⟩
  | _ => Ans.no
def impl_BitsNew.Cs (k : Nat) : CallSem := tab [(79, impl_within.ans k), (153, impl_BitsSize.ans k)]
def impl_BitsNew.cuts : List (Nat × Keep) := []
theorem impl_BitsNew.s (k : Nat) (a0 : Int) : answer Try.prog impl_BitsNew.Cs 100000 impl_BitsNew.cuts [] Try.f154 (k + 1) [.v (.int .i64 a0)] = impl_BitsNew.b (fun r => some (impl_BitsNew.enc r)) k a0 := by kernel_rfl
theorem impl_BitsNew.b_nat {R R' : Type} (e : R → R') (ret : Bool × List Int → Option R) (k : Nat) (a0 : Int) : impl_BitsNew.b (fun r => (ret r).map e) k a0 = (impl_BitsNew.b ret k a0).map e := by
  unfold impl_BitsNew.b
  repeat' first | with_reducible refine nat_cond ?_ ?_ | with_reducible refine nat_bind fun _ => ?_ | rfl
theorem impl_BitsNew.eq (k : Nat) (a0 : Int) : answer Try.prog impl_BitsNew.Cs 100000 impl_BitsNew.cuts [] Try.f154 (k + 1) [.v (.int .i64 a0)] = (impl_BitsNew.f (k + 1) a0).map impl_BitsNew.enc := by
  refine (impl_BitsNew.s k a0).trans (Eq.trans ?_ (impl_BitsNew.b_nat impl_BitsNew.enc some k a0))
  simp only [Option.map_some]
theorem impl_BitsNew.sound (k : Nat) : SoundF Try.prog 154 (fun a => (impl_BitsNew.ans k a).val) := by
  refine sound_plain (fun args res h => ?_) (fun t n => rfl)
  unfold impl_BitsNew.ans at h
  dsimp only at h
  split at h
  · cases k with
    | zero => cases h
    | succ k =>
      unfold Ans.val at h
      rw [← impl_BitsNew.eq] at h
      exact answer_sound mixed Try.func154 _ _ _ (k + 1) (fun j _ => tab_sound (tab_cons (impl_within.sound j) (tab_cons (impl_BitsSize.sound j) (tab_nil)))) _ _ h
  · exact (Ans.no_val h).elim

/-! loop.example/g00790/impl.BitsOf -/
def impl_BitsOf.b {R : Type} (ret : Bool × (List Int) × Bool → Option R) (j0 : Int → Bool → (List Int) → Bool → (List Int) → Int → Int → Option R) (k : Nat) (a0z : Bool) (a0 : List Int) (a1 : Int) : Option R :=
  (impl_within.f k a1 1 10).bind fun t0 => cond (!t0) (ret (true, ([] : List Int), false)) ((impl_BitsNew.f k a1).bind fun t1 => j0 a1 t1.1 t1.2 a0z a0 ((a0).length : Int) 0)
def impl_BitsOf.l0b {R : Type} (ret : Bool × (List Int) × Bool → Option R) (j0 : Int → Bool → (List Int) → Bool → (List Int) → Int → Int → Option R) (k : Nat) (x1 : Int) (x6z : Bool) (x6 : List Int) (x14z : Bool) (x14 : List Int) (x15 : Int) (x16 : Int) : Option R :=
  cond (decide (x16 < x15)) (cond (decide ((0 : Int) ≤ x16)) (cond (decide (x16 < ((x14).length : Int))) ((impl_within.f k (rdI x14 x16) 0 (RowKit.wrap64 (x1 - 1))).bind fun t0 => cond (!t0) (ret (true, ([] : List Int), false)) (cond (decide ((0 : Int) ≤ (RowKit.wrap64 (Int.tdiv (rdI x14 x16) 8)))) (cond (decide ((RowKit.wrap64 (Int.tdiv (rdI x14 x16) 8)) < ((x6).length : Int))) (cond (decide ((0 : Int) ≤ (Int.tmod (rdI x14 x16) 8))) (cond (decide ((0 : Int) ≤ (RowKit.wrap64 (Int.tdiv (rdI x14 x16) 8)))) (cond (decide ((RowKit.wrap64 (Int.tdiv (rdI x14 x16) 8)) < ((x6).length : Int))) (j0 x1 x6z ((x6).set ((RowKit.wrap64 (Int.tdiv (rdI x14 x16) 8))).toNat (Go.bits .or .u8 (rdI x6 (RowKit.wrap64 (Int.tdiv (rdI x14 x16) 8))) (shlI .u8 1 (Int.tmod (rdI x14 x16) 8)))) x14z x14 x15 (RowKit.wrap64 (x16 + 1))) (none)) (none)) (none)) (none)) (none))) (none)) (none)) (ret (x6z, x6, true))
def impl_BitsOf.l0 : Nat → Int → Bool → (List Int) → Bool → (List Int) → Int → Int → Option (Bool × (List Int) × Bool)
  | 0, _, _, _, _, _, _, _ => none
  | k + 1, x1, x6z, x6, x14z, x14, x15, x16 => impl_BitsOf.l0b some (impl_BitsOf.l0 k) k x1 x6z x6 x14z x14 x15 x16
def impl_BitsOf.f : Nat → Bool → (List Int) → Int → Option (Bool × (List Int) × Bool)
  | 0, _, _, _ => none
  | k + 1, a0z, a0, a1 => impl_BitsOf.b some (impl_BitsOf.l0 k) k a0z a0 a1
def impl_BitsOf.enc (r : Bool × (List Int) × Bool) : Res := ⟨[.vals false [((.nums 5 .u8 r.1 r.2.1), true)], .vals false [((.bool r.2.2), true)]], []⟩
def impl_BitsOf.ans (k : Nat) : List Arg → Ans
  | [.v (.nums 3 .i64 a0z a0), .v (.int .i64 a1)] => ⟨impl_BitsOf.f k a0z a0 a1, impl_BitsOf.enc⟩
  | _ => Ans.no
def impl_BitsOf.Cs (k : Nat) : CallSem := tab [(79, impl_within.ans k), (154, impl_BitsNew.ans k)]
def impl_BitsOf.cuts : List (Nat × Keep) := [(122, ⟨[(1, some []), (6, none), (14, some []), (15, some []), (16, some [])], []⟩)]
noncomputable def impl_BitsOf.K0 : List Fr := framesAt [true, true, true, false, true, false] (bodyOf Try.f94 impl_BitsOf.cuts) []
def impl_BitsOf.N0 (x1 : Int) (x6z : Bool) (x6 : List Int) (x14z : Bool) (x14 : List Int) (x15 : Int) (x16 : Int) : St := stOf 37 37 2 [(1, .val (V.s (.int .i64 x1))), (6, .val ⟨(.nums 5 .u8 x6z x6), [.l 6 0], true, some (.l 6 0)⟩), (14, .val ⟨(.nums 3 .i64 x14z x14), [], false, none⟩), (15, .val (V.s (.int .i64 x15))), (16, .val (V.s (.int .i64 x16)))] []
theorem impl_BitsOf.s (k : Nat) (a0z : Bool) (a0 : List Int) (a1 : Int) : answer Try.prog impl_BitsOf.Cs 100000 impl_BitsOf.cuts [] Try.f94 (k + 1) [.v (.nums 3 .i64 a0z a0), .v (.int .i64 a1)] = impl_BitsOf.b (fun r => some (impl_BitsOf.enc r)) (fun x1 x6z x6 x14z x14 x15 x16 => rounds Try.prog impl_BitsOf.Cs (finish Try.prog [] Try.f94 [.v (.nums 3 .i64 a0z a0), .v (.int .i64 a1)]) 100000 k impl_BitsOf.K0 (impl_BitsOf.N0 x1 x6z x6 x14z x14 x15 x16)) k a0z a0 a1 := by kernel_rfl
theorem impl_BitsOf.s0 (k : Nat) (G : List Fr → St → Option Res) (a0z : Bool) (a0 : List Int) (a1 : Int) (yx1 : Int) (yx6z : Bool) (yx6 : List Int) (yx14z : Bool) (yx14 : List Int) (yx15 : Int) (yx16 : Int) : resume Try.prog (impl_BitsOf.Cs k) G (finish Try.prog [] Try.f94 [.v (.nums 3 .i64 a0z a0), .v (.int .i64 a1)]) 100000 impl_BitsOf.K0 (impl_BitsOf.N0 yx1 yx6z yx6 yx14z yx14 yx15 yx16) = impl_BitsOf.l0b (fun r => some (impl_BitsOf.enc r)) (fun x1 x6z x6 x14z x14 x15 x16 => G impl_BitsOf.K0 (impl_BitsOf.N0 x1 x6z x6 x14z x14 x15 x16)) k yx1 yx6z yx6 yx14z yx14 yx15 yx16 := by kernel_rfl
theorem impl_BitsOf.b_nat {R R' : Type} (e : R → R') (ret : Bool × (List Int) × Bool → Option R) (j0 : Int → Bool → (List Int) → Bool → (List Int) → Int → Int → Option R) (k : Nat) (a0z : Bool) (a0 : List Int) (a1 : Int) : impl_BitsOf.b (fun r => (ret r).map e) (fun x1 x6z x6 x14z x14 x15 x16 => (j0 x1 x6z x6 x14z x14 x15 x16).map e) k a0z a0 a1 = (impl_BitsOf.b ret j0 k a0z a0 a1).map e := by
  unfold impl_BitsOf.b
  repeat' first | with_reducible refine nat_cond ?_ ?_ | with_reducible refine nat_bind fun _ => ?_ | rfl
theorem impl_BitsOf.l0b_nat {R R' : Type} (e : R → R') (ret : Bool × (List Int) × Bool → Option R) (j0 : Int → Bool → (List Int) → Bool → (List Int) → Int → Int → Option R) (k : Nat) (x1 : Int) (x6z : Bool) (x6 : List Int) (x14z : Bool) (x14 : List Int) (x15 : Int) (x16 : Int) : impl_BitsOf.l0b (fun r => (ret r).map e) (fun x1 x6z x6 x14z x14 x15 x16 => (j0 x1 x6z x6 x14z x14 x15 x16).map e) k x1 x6z x6 x14z x14 x15 x16 = (impl_BitsOf.l0b ret j0 k x1 x6z x6 x14z x14 x15 x16).map e := by
  unfold impl_BitsOf.l0b
  repeat' first | with_reducible refine nat_cond ?_ ?_ | with_reducible refine nat_bind fun _ => ?_ | rfl
theorem impl_BitsOf.rounds_eq (a0z : Bool) (a0 : List Int) (a1 : Int) : ∀ k, (∀ (x1 : Int) (x6z : Bool) (x6 : List Int) (x14z : Bool) (x14 : List Int) (x15 : Int) (x16 : Int), rounds Try.prog impl_BitsOf.Cs (finish Try.prog [] Try.f94 [.v (.nums 3 .i64 a0z a0), .v (.int .i64 a1)]) 100000 k impl_BitsOf.K0 (impl_BitsOf.N0 x1 x6z x6 x14z x14 x15 x16) = (impl_BitsOf.l0 k x1 x6z x6 x14z x14 x15 x16).map impl_BitsOf.enc)
  | 0 => fun _ _ _ _ _ _ _ => rfl
  | k + 1 => by
    have ih := impl_BitsOf.rounds_eq a0z a0 a1 k
    refine fun _ _ _ _ _ _ _ => ?_
    · refine (impl_BitsOf.s0 k _ a0z a0 a1 _ _ _ _ _ _ _).trans (Eq.trans ?_ (impl_BitsOf.l0b_nat impl_BitsOf.enc some (impl_BitsOf.l0 k) k _ _ _ _ _ _ _))
      simp only [ih, Option.map_some]
theorem impl_BitsOf.eq (k : Nat) (a0z : Bool) (a0 : List Int) (a1 : Int) : answer Try.prog impl_BitsOf.Cs 100000 impl_BitsOf.cuts [] Try.f94 (k + 1) [.v (.nums 3 .i64 a0z a0), .v (.int .i64 a1)] = (impl_BitsOf.f (k + 1) a0z a0 a1).map impl_BitsOf.enc := by
  have ih := impl_BitsOf.rounds_eq a0z a0 a1 k
  refine (impl_BitsOf.s k a0z a0 a1).trans (Eq.trans ?_ (impl_BitsOf.b_nat impl_BitsOf.enc some (impl_BitsOf.l0 k) k a0z a0 a1))
  simp only [ih, Option.map_some]
theorem impl_BitsOf.sound (k : Nat) : SoundF Try.prog 94 (fun a => (impl_BitsOf.ans k a).val) := by
  refine sound_plain (fun args res h => ?_) (fun t n => rfl)
  unfold impl_BitsOf.ans at h
  dsimp only at h
  split at h
  · cases k with
    | zero => cases h
    | succ k =>
      unfold Ans.val at h
      rw [← impl_BitsOf.eq] at h
      exact answer_sound mixed Try.func94 _ _ _ (k + 1) (fun j _ => tab_sound (tab_cons (impl_within.sound j) (tab_cons (impl_BitsNew.sound j) (tab_nil)))) _ _ h
  · exact (Ans.no_val h).elim

/-! loop.example/g00790/impl.TcBits -/
def impl_TcBits.b {R : Type} (ret : Bool × (List Int) × Bool → Option R) (j0 : (List Int) → Bool → (List T) → Int → Int → Int → Int → Int → Int → Int → Option R) (k : Nat) (a0_0 : Int) (a0_1 : Int) (a0_2 : Int) (a0_3 : Int) (a0_4 : Int) (a1_0 : Int) (a1_1z : Bool) (a1_1 : List T) : Option R :=
  (impl_TcOk.f k a0_0 a0_1 a0_2 a0_3 a0_4 a1_0 a1_1z a1_1).bind fun t0 => cond (!t0) (ret (true, ([] : List Int), false)) (j0 ([] : List Int) a1_1z a1_1 ((a1_1).length : Int) 0 a0_0 a0_1 a0_2 a0_3 a0_4)
def impl_TcBits.l0b {R : Type} (ret : Bool × (List Int) × Bool → Option R) (j0 : (List Int) → Bool → (List T) → Int → Int → Int → Int → Int → Int → Int → Option R) (k : Nat) (x6 : List Int) (x15z : Bool) (x15 : List T) (x16 : Int) (x17 : Int) (c2_0 : Int) (c2_1 : Int) (c2_2 : Int) (c2_3 : Int) (c2_4 : Int) : Option R :=
  cond (decide (x17 < x16)) (cond (decide ((0 : Int) ≤ x17)) (cond (decide (x17 < ((x15).length : Int))) (cond (decide ((x6).length + 1 < 17592186044416)) (j0 (x6 ++ ([((((x15).getD (x17).toNat .bad).cells.getD 0 .bad)).toInt] : List Int)) x15z x15 x16 (RowKit.wrap64 (x17 + 1)) c2_0 c2_1 c2_2 c2_3 c2_4) (none)) (none)) (none)) ((impl_BitsOf.f k false x6 c2_0).bind fun t0 => ret (t0.1, t0.2.1, t0.2.2))
def impl_TcBits.l0 : Nat → (List Int) → Bool → (List T) → Int → Int → Int → Int → Int → Int → Int → Option (Bool × (List Int) × Bool)
  | 0, _, _, _, _, _, _, _, _, _, _ => none
  | k + 1, x6, x15z, x15, x16, x17, c2_0, c2_1, c2_2, c2_3, c2_4 => impl_TcBits.l0b some (impl_TcBits.l0 k) k x6 x15z x15 x16 x17 c2_0 c2_1 c2_2 c2_3 c2_4
def impl_TcBits.f : Nat → Int → Int → Int → Int → Int → Int → Bool → (List T) → Option (Bool × (List Int) × Bool)
  | 0, _, _, _, _, _, _, _, _ => none
  | k + 1, a0_0, a0_1, a0_2, a0_3, a0_4, a1_0, a1_1z, a1_1 => impl_TcBits.b some (impl_TcBits.l0 k) k a0_0 a0_1 a0_2 a0_3 a0_4 a1_0 a1_1z a1_1
def impl_TcBits.enc (r : Bool × (List Int) × Bool) : Res := ⟨[.vals false [((.nums 5 .u8 r.1 r.2.1), true)], .vals false [((.bool r.2.2), true)]], []⟩
def impl_TcBits.ans (k : Nat) : List Arg → Ans
  | [.v (.agg [(.int .i64 a0_0), (.int .i64 a0_1), (.int .i64 a0_2), (.int .i64 a0_3), (.int .i64 a0_4)]), .v (.agg [(.int .i64 a1_0), (.sl 37 a1_1z a1_1)])] => ⟨impl_TcBits.f k a0_0 a0_1 a0_2 a0_3 a0_4 a1_0 a1_1z a1_1, impl_TcBits.enc⟩
  | _ => Ans.no
def impl_TcBits.Cs (k : Nat) : CallSem := tab [(96, impl_TcOk.ans k), (94, impl_BitsOf.ans k)]
def impl_TcBits.cuts : List (Nat × Keep) := [(122, ⟨[(2, some []), (6, none), (15, some []), (16, some []), (17, some [])], [(2, [some [], some [], some [], some [], some []])]⟩)]
noncomputable def impl_TcBits.K0 : List Fr := framesAt [true, true, true, false, true, false] (bodyOf Try.f30 impl_TcBits.cuts) []
def impl_TcBits.N0 (x6 : List Int) (x15z : Bool) (x15 : List T) (x16 : Int) (x17 : Int) (c2_0 : Int) (c2_1 : Int) (c2_2 : Int) (c2_3 : Int) (c2_4 : Int) : St := stOf 33 33 2 [(2, .bp 2 0), (6, .val ⟨(.nums 3 .i64 false x6), [.l 6 0], true, some (.l 6 0)⟩), (15, .val ⟨(.sl 37 x15z x15), [], false, none⟩), (16, .val (V.s (.int .i64 x16))), (17, .val (V.s (.int .i64 x17)))] [(2, .cells [V.s (.int .i64 c2_0), V.s (.int .i64 c2_1), V.s (.int .i64 c2_2), V.s (.int .i64 c2_3), V.s (.int .i64 c2_4)])]
theorem impl_TcBits.s (k : Nat) (a0_0 : Int) (a0_1 : Int) (a0_2 : Int) (a0_3 : Int) (a0_4 : Int) (a1_0 : Int) (a1_1z : Bool) (a1_1 : List T) : answer Try.prog impl_TcBits.Cs 100000 impl_TcBits.cuts [] Try.f30 (k + 1) [.v (.agg [(.int .i64 a0_0), (.int .i64 a0_1), (.int .i64 a0_2), (.int .i64 a0_3), (.int .i64 a0_4)]), .v (.agg [(.int .i64 a1_0), (.sl 37 a1_1z a1_1)])] = impl_TcBits.b (fun r => some (impl_TcBits.enc r)) (fun x6 x15z x15 x16 x17 c2_0 c2_1 c2_2 c2_3 c2_4 => rounds Try.prog impl_TcBits.Cs (finish Try.prog [] Try.f30 [.v (.agg [(.int .i64 a0_0), (.int .i64 a0_1), (.int .i64 a0_2), (.int .i64 a0_3), (.int .i64 a0_4)]), .v (.agg [(.int .i64 a1_0), (.sl 37 a1_1z a1_1)])]) 100000 k impl_TcBits.K0 (impl_TcBits.N0 x6 x15z x15 x16 x17 c2_0 c2_1 c2_2 c2_3 c2_4)) k a0_0 a0_1 a0_2 a0_3 a0_4 a1_0 a1_1z a1_1 := by kernel_rfl
theorem impl_TcBits.s0 (k : Nat) (G : List Fr → St → Option Res) (a0_0 : Int) (a0_1 : Int) (a0_2 : Int) (a0_3 : Int) (a0_4 : Int) (a1_0 : Int) (a1_1z : Bool) (a1_1 : List T) (yx6 : List Int) (yx15z : Bool) (yx15 : List T) (yx16 : Int) (yx17 : Int) (yc2_0 : Int) (yc2_1 : Int) (yc2_2 : Int) (yc2_3 : Int) (yc2_4 : Int) : resume Try.prog (impl_TcBits.Cs k) G (finish Try.prog [] Try.f30 [.v (.agg [(.int .i64 a0_0), (.int .i64 a0_1), (.int .i64 a0_2), (.int .i64 a0_3), (.int .i64 a0_4)]), .v (.agg [(.int .i64 a1_0), (.sl 37 a1_1z a1_1)])]) 100000 impl_TcBits.K0 (impl_TcBits.N0 yx6 yx15z yx15 yx16 yx17 yc2_0 yc2_1 yc2_2 yc2_3 yc2_4) = impl_TcBits.l0b (fun r => some (impl_TcBits.enc r)) (fun x6 x15z x15 x16 x17 c2_0 c2_1 c2_2 c2_3 c2_4 => G impl_TcBits.K0 (impl_TcBits.N0 x6 x15z x15 x16 x17 c2_0 c2_1 c2_2 c2_3 c2_4)) k yx6 yx15z yx15 yx16 yx17 yc2_0 yc2_1 yc2_2 yc2_3 yc2_4 := by kernel_rfl
theorem impl_TcBits.b_nat {R R' : Type} (e : R → R') (ret : Bool × (List Int) × Bool → Option R) (j0 : (List Int) → Bool → (List T) → Int → Int → Int → Int → Int → Int → Int → Option R) (k : Nat) (a0_0 : Int) (a0_1 : Int) (a0_2 : Int) (a0_3 : Int) (a0_4 : Int) (a1_0 : Int) (a1_1z : Bool) (a1_1 : List T) : impl_TcBits.b (fun r => (ret r).map e) (fun x6 x15z x15 x16 x17 c2_0 c2_1 c2_2 c2_3 c2_4 => (j0 x6 x15z x15 x16 x17 c2_0 c2_1 c2_2 c2_3 c2_4).map e) k a0_0 a0_1 a0_2 a0_3 a0_4 a1_0 a1_1z a1_1 = (impl_TcBits.b ret j0 k a0_0 a0_1 a0_2 a0_3 a0_4 a1_0 a1_1z a1_1).map e := by
  unfold impl_TcBits.b
  repeat' first | with_reducible refine nat_cond ?_ ?_ | with_reducible refine nat_bind fun _ => ?_ | rfl
theorem impl_TcBits.l0b_nat {R R' : Type} (e : R → R') (ret : Bool × (List Int) × Bool → Option R) (j0 : (List Int) → Bool → (List T) → Int → Int → Int → Int → Int → Int → Int → Option R) (k : Nat) (x6 : List Int) (x15z : Bool) (x15 : List T) (x16 : Int) (x17 : Int) (c2_0 : Int) (c2_1 : Int) (c2_2 : Int) (c2_3 : Int) (c2_4 : Int) : impl_TcBits.l0b (fun r => (ret r).map e) (fun x6 x15z x15 x16 x17 c2_0 c2_1 c2_2 c2_3 c2_4 => (j0 x6 x15z x15 x16 x17 c2_0 c2_1 c2_2 c2_3 c2_4).map e) k x6 x15z x15 x16 x17 c2_0 c2_1 c2_2 c2_3 c2_4 = (impl_TcBits.l0b ret j0 k x6 x15z x15 x16 x17 c2_0 c2_1 c2_2 c2_3 c2_4).map e := by
  unfold impl_TcBits.l0b
  repeat' first | with_reducible refine nat_cond ?_ ?_ | with_reducible refine nat_bind fun _ => ?_ | rfl
theorem impl_TcBits.rounds_eq (a0_0 : Int) (a0_1 : Int) (a0_2 : Int) (a0_3 : Int) (a0_4 : Int) (a1_0 : Int) (a1_1z : Bool) (a1_1 : List T) : ∀ k, (∀ (x6 : List Int) (x15z : Bool) (x15 : List T) (x16 : Int) (x17 : Int) (c2_0 : Int) (c2_1 : Int) (c2_2 : Int) (c2_3 : Int) (c2_4 : Int), rounds Try.prog impl_TcBits.Cs (finish Try.prog [] Try.f30 [.v (.agg [(.int .i64 a0_0), (.int .i64 a0_1), (.int .i64 a0_2), (.int .i64 a0_3), (.int .i64 a0_4)]), .v (.agg [(.int .i64 a1_0), (.sl 37 a1_1z a1_1)])]) 100000 k impl_TcBits.K0 (impl_TcBits.N0 x6 x15z x15 x16 x17 c2_0 c2_1 c2_2 c2_3 c2_4) = (impl_TcBits.l0 k x6 x15z x15 x16 x17 c2_0 c2_1 c2_2 c2_3 c2_4).map impl_TcBits.enc)
  | 0 => fun _ _ _ _ _ _ _ _ _ _ => rfl
  | k + 1 => by
    have ih := impl_TcBits.rounds_eq a0_0 a0_1 a0_2 a0_3 a0_4 a1_0 a1_1z a1_1 k
    refine fun _ _ _ _ _ _ _ _ _ _ => ?_
    · refine (impl_TcBits.s0 k _ a0_0 a0_1 a0_2 a0_3 a0_4 a1_0 a1_1z a1_1 _ _ _ _ _ _ _ _ _ _).trans (Eq.trans ?_ (impl_TcBits.l0b_nat impl_TcBits.enc some (impl_TcBits.l0 k) k _ _ _ _ _ _ _ _ _ _))
      simp only [ih, Option.map_some]
theorem impl_TcBits.eq (k : Nat) (a0_0 : Int) (a0_1 : Int) (a0_2 : Int) (a0_3 : Int) (a0_4 : Int) (a1_0 : Int) (a1_1z : Bool) (a1_1 : List T) : answer Try.prog impl_TcBits.Cs 100000 impl_TcBits.cuts [] Try.f30 (k + 1) [.v (.agg [(.int .i64 a0_0), (.int .i64 a0_1), (.int .i64 a0_2), (.int .i64 a0_3), (.int .i64 a0_4)]), .v (.agg [(.int .i64 a1_0), (.sl 37 a1_1z a1_1)])] = (impl_TcBits.f (k + 1) a0_0 a0_1 a0_2 a0_3 a0_4 a1_0 a1_1z a1_1).map impl_TcBits.enc := by
  have ih := impl_TcBits.rounds_eq a0_0 a0_1 a0_2 a0_3 a0_4 a1_0 a1_1z a1_1 k
  refine (impl_TcBits.s k a0_0 a0_1 a0_2 a0_3 a0_4 a1_0 a1_1z a1_1).trans (Eq.trans ?_ (impl_TcBits.b_nat impl_TcBits.enc some (impl_TcBits.l0 k) k a0_0 a0_1 a0_2 a0_3 a0_4 a1_0 a1_1z a1_1))
  simp only [ih, Option.map_some]
theorem impl_TcBits.sound (k : Nat) : SoundF Try.prog 30 (fun a => (impl_TcBits.ans k a).val) := by
  refine sound_plain (fun args res h => ?_) (fun t n => rfl)
  unfold impl_TcBits.ans at h
  dsimp only at h
  split at h
  · cases k with
    | zero => cases h
    | succ k =>
      unfold Ans.val at h
      rw [← impl_TcBits.eq] at h
      exact answer_sound mixed Try.func30 _ _ _ (k + 1) (fun j _ => tab_sound (tab_cons (impl_TcOk.sound j) (tab_cons (impl_BitsOf.sound j) (tab_nil)))) _ _ h
  · exact (Ans.no_val h).elim

/-! loop.example/g00790/impl.WeightOf -/
def impl_WeightOf.b {R : Type} (ret : Int → Option R) (j0 : Int → Bool → (List Int) → Int → Int → Bool → (List T) → Option R) (k : Nat) (a0_0z : Bool) (a0_0 : List T) (a1z : Bool) (a1 : List Int) : Option R :=
  (impl_TableOk.f k a0_0z a0_0).bind fun t0 => cond (!t0) (ret 0) ((impl_BitsOk.f k a1z a1 ((a0_0).length : Int)).bind fun t1 => cond (!t1) (ret 0) ((impl_BitsList.f k a1z a1).bind fun t2 => j0 0 t2.1 t2.2 ((t2.2).length : Int) 0 a0_0z a0_0))
def impl_WeightOf.l0b {R : Type} (ret : Int → Option R) (j0 : Int → Bool → (List Int) → Int → Int → Bool → (List T) → Option R) (k : Nat) (x5 : Int) (x20z : Bool) (x20 : List Int) (x21 : Int) (x22 : Int) (c2_0z : Bool) (c2_0 : List T) : Option R :=
  cond (decide (x22 < x21)) (cond (decide ((0 : Int) ≤ x22)) (cond (decide (x22 < ((x20).length : Int))) (cond (decide ((0 : Int) ≤ (rdI x20 x22))) (cond (decide ((rdI x20 x22) < ((c2_0).length : Int))) (j0 (RowKit.wrap64 (x5 + ((((c2_0).getD ((rdI x20 x22)).toNat .bad).cells.getD 0 .bad)).toInt)) x20z x20 x21 (RowKit.wrap64 (x22 + 1)) c2_0z c2_0) (none)) (none)) (none)) (none)) (ret x5)
def impl_WeightOf.l0 : Nat → Int → Bool → (List Int) → Int → Int → Bool → (List T) → Option Int
  | 0, _, _, _, _, _, _, _ => none
  | k + 1, x5, x20z, x20, x21, x22, c2_0z, c2_0 => impl_WeightOf.l0b some (impl_WeightOf.l0 k) k x5 x20z x20 x21 x22 c2_0z c2_0
def impl_WeightOf.f : Nat → Bool → (List T) → Bool → (List Int) → Option Int
  | 0, _, _, _, _ => none
  | k + 1, a0_0z, a0_0, a1z, a1 => impl_WeightOf.b some (impl_WeightOf.l0 k) k a0_0z a0_0 a1z a1
def impl_WeightOf.enc (r : Int) : Res := ⟨[.vals false [((.int .i64 r), true)]], []⟩
def impl_WeightOf.ans (k : Nat) : List Arg → Ans
  | [.v (.agg [(.sl 44 a0_0z a0_0)]), .v (.nums 5 .u8 a1z a1)] => ⟨impl_WeightOf.f k a0_0z a0_0 a1z a1, impl_WeightOf.enc⟩
  | _ => Ans.no
def impl_WeightOf.Cs (k : Nat) : CallSem := tab [(78, impl_TableOk.ans k), (88, impl_BitsOk.ans k), (89, impl_BitsList.ans k)]
def impl_WeightOf.cuts : List (Nat × Keep) := [(122, ⟨[(2, some []), (5, some []), (20, none), (21, some []), (22, some [])], [(2, [some []])]⟩)]
noncomputable def impl_WeightOf.K0 : List Fr := framesAt [true, true, true, false, true, false] (bodyOf Try.f49 impl_WeightOf.cuts) []
def impl_WeightOf.N0 (x5 : Int) (x20z : Bool) (x20 : List Int) (x21 : Int) (x22 : Int) (c2_0z : Bool) (c2_0 : List T) : St := stOf 36 36 2 [(2, .bp 2 0), (5, .val (V.s (.int .i64 x5))), (20, .val ⟨(.nums 3 .i64 x20z x20), [.l 20 0], true, some (.l 20 0)⟩), (21, .val (V.s (.int .i64 x21))), (22, .val (V.s (.int .i64 x22)))] [(2, .cells [⟨(.sl 44 c2_0z c2_0), [], false, none⟩])]
theorem impl_WeightOf.s (k : Nat) (a0_0z : Bool) (a0_0 : List T) (a1z : Bool) (a1 : List Int) : answer Try.prog impl_WeightOf.Cs 100000 impl_WeightOf.cuts [] Try.f49 (k + 1) [.v (.agg [(.sl 44 a0_0z a0_0)]), .v (.nums 5 .u8 a1z a1)] = impl_WeightOf.b (fun r => some (impl_WeightOf.enc r)) (fun x5 x20z x20 x21 x22 c2_0z c2_0 => rounds Try.prog impl_WeightOf.Cs (finish Try.prog [] Try.f49 [.v (.agg [(.sl 44 a0_0z a0_0)]), .v (.nums 5 .u8 a1z a1)]) 100000 k impl_WeightOf.K0 (impl_WeightOf.N0 x5 x20z x20 x21 x22 c2_0z c2_0)) k a0_0z a0_0 a1z a1 := by kernel_rfl
theorem impl_WeightOf.s0 (k : Nat) (G : List Fr → St → Option Res) (a0_0z : Bool) (a0_0 : List T) (a1z : Bool) (a1 : List Int) (yx5 : Int) (yx20z : Bool) (yx20 : List Int) (yx21 : Int) (yx22 : Int) (yc2_0z : Bool) (yc2_0 : List T) : resume Try.prog (impl_WeightOf.Cs k) G (finish Try.prog [] Try.f49 [.v (.agg [(.sl 44 a0_0z a0_0)]), .v (.nums 5 .u8 a1z a1)]) 100000 impl_WeightOf.K0 (impl_WeightOf.N0 yx5 yx20z yx20 yx21 yx22 yc2_0z yc2_0) = impl_WeightOf.l0b (fun r => some (impl_WeightOf.enc r)) (fun x5 x20z x20 x21 x22 c2_0z c2_0 => G impl_WeightOf.K0 (impl_WeightOf.N0 x5 x20z x20 x21 x22 c2_0z c2_0)) k yx5 yx20z yx20 yx21 yx22 yc2_0z yc2_0 := by kernel_rfl
theorem impl_WeightOf.b_nat {R R' : Type} (e : R → R') (ret : Int → Option R) (j0 : Int → Bool → (List Int) → Int → Int → Bool → (List T) → Option R) (k : Nat) (a0_0z : Bool) (a0_0 : List T) (a1z : Bool) (a1 : List Int) : impl_WeightOf.b (fun r => (ret r).map e) (fun x5 x20z x20 x21 x22 c2_0z c2_0 => (j0 x5 x20z x20 x21 x22 c2_0z c2_0).map e) k a0_0z a0_0 a1z a1 = (impl_WeightOf.b ret j0 k a0_0z a0_0 a1z a1).map e := by
  unfold impl_WeightOf.b
  repeat' first | with_reducible refine nat_cond ?_ ?_ | with_reducible refine nat_bind fun _ => ?_ | rfl
theorem impl_WeightOf.l0b_nat {R R' : Type} (e : R → R') (ret : Int → Option R) (j0 : Int → Bool → (List Int) → Int → Int → Bool → (List T) → Option R) (k : Nat) (x5 : Int) (x20z : Bool) (x20 : List Int) (x21 : Int) (x22 : Int) (c2_0z : Bool) (c2_0 : List T) : impl_WeightOf.l0b (fun r => (ret r).map e) (fun x5 x20z x20 x21 x22 c2_0z c2_0 => (j0 x5 x20z x20 x21 x22 c2_0z c2_0).map e) k x5 x20z x20 x21 x22 c2_0z c2_0 = (impl_WeightOf.l0b ret j0 k x5 x20z x20 x21 x22 c2_0z c2_0).map e := by
  unfold impl_WeightOf.l0b
  repeat' first | with_reducible refine nat_cond ?_ ?_ | with_reducible refine nat_bind fun _ => ?_ | rfl
theorem impl_WeightOf.rounds_eq (a0_0z : Bool) (a0_0 : List T) (a1z : Bool) (a1 : List Int) : ∀ k, (∀ (x5 : Int) (x20z : Bool) (x20 : List Int) (x21 : Int) (x22 : Int) (c2_0z : Bool) (c2_0 : List T), rounds Try.prog impl_WeightOf.Cs (finish Try.prog [] Try.f49 [.v (.agg [(.sl 44 a0_0z a0_0)]), .v (.nums 5 .u8 a1z a1)]) 100000 k impl_WeightOf.K0 (impl_WeightOf.N0 x5 x20z x20 x21 x22 c2_0z c2_0) = (impl_WeightOf.l0 k x5 x20z x20 x21 x22 c2_0z c2_0).map impl_WeightOf.enc)
  | 0 => fun _ _ _ _ _ _ _ => rfl
  | k + 1 => by
    have ih := impl_WeightOf.rounds_eq a0_0z a0_0 a1z a1 k
    refine fun _ _ _ _ _ _ _ => ?_
    · refine (impl_WeightOf.s0 k _ a0_0z a0_0 a1z a1 _ _ _ _ _ _ _).trans (Eq.trans ?_ (impl_WeightOf.l0b_nat impl_WeightOf.enc some (impl_WeightOf.l0 k) k _ _ _ _ _ _ _))
      simp only [ih, Option.map_some]
theorem impl_WeightOf.eq (k : Nat) (a0_0z : Bool) (a0_0 : List T) (a1z : Bool) (a1 : List Int) : answer Try.prog impl_WeightOf.Cs 100000 impl_WeightOf.cuts [] Try.f49 (k + 1) [.v (.agg [(.sl 44 a0_0z a0_0)]), .v (.nums 5 .u8 a1z a1)] = (impl_WeightOf.f (k + 1) a0_0z a0_0 a1z a1).map impl_WeightOf.enc := by
  have ih := impl_WeightOf.rounds_eq a0_0z a0_0 a1z a1 k
  refine (impl_WeightOf.s k a0_0z a0_0 a1z a1).trans (Eq.trans ?_ (impl_WeightOf.b_nat impl_WeightOf.enc some (impl_WeightOf.l0 k) k a0_0z a0_0 a1z a1))
  simp only [ih, Option.map_some]
theorem impl_WeightOf.sound (k : Nat) : SoundF Try.prog 49 (fun a => (impl_WeightOf.ans k a).val) := by
  refine sound_plain (fun args res h => ?_) (fun t n => rfl)
  unfold impl_WeightOf.ans at h
  dsimp only at h
  split at h
  · cases k with
    | zero => cases h
    | succ k =>
      unfold Ans.val at h
      rw [← impl_WeightOf.eq] at h
      exact answer_sound mixed Try.func49 _ _ _ (k + 1) (fun j _ => tab_sound (tab_cons (impl_TableOk.sound j) (tab_cons (impl_BitsOk.sound j) (tab_cons (impl_BitsList.sound j) (tab_nil))))) _ _ h
  · exact (Ans.no_val h).elim

/-! loop.example/g00790/impl.TotalOf -/
def impl_TotalOf.b {R : Type} (ret : Int → Option R) (j0 : Int → Bool → (List T) → Int → Int → Bool → (List T) → Option R) (k : Nat) (a0_0z : Bool) (a0_0 : List T) : Option R :=
  j0 0 a0_0z a0_0 ((a0_0).length : Int) 0 a0_0z a0_0
def impl_TotalOf.l0b {R : Type} (ret : Int → Option R) (j0 : Int → Bool → (List T) → Int → Int → Bool → (List T) → Option R) (k : Nat) (x3 : Int) (x7z : Bool) (x7 : List T) (x8 : Int) (x9 : Int) (c1_0z : Bool) (c1_0 : List T) : Option R :=
  cond (decide (x9 < x8)) (cond (decide ((0 : Int) ≤ x9)) (cond (decide (x9 < ((x7).length : Int))) ((impl_TableOk.f k c1_0z c1_0).bind fun t0 => cond t0 (j0 (RowKit.wrap64 (x3 + ((((x7).getD (x9).toNat .bad).cells.getD 0 .bad)).toInt)) x7z x7 x8 (RowKit.wrap64 (x9 + 1)) c1_0z c1_0) (j0 x3 x7z x7 x8 (RowKit.wrap64 (x9 + 1)) c1_0z c1_0)) (none)) (none)) (ret x3)
def impl_TotalOf.l0 : Nat → Int → Bool → (List T) → Int → Int → Bool → (List T) → Option Int
  | 0, _, _, _, _, _, _, _ => none
  | k + 1, x3, x7z, x7, x8, x9, c1_0z, c1_0 => impl_TotalOf.l0b some (impl_TotalOf.l0 k) k x3 x7z x7 x8 x9 c1_0z c1_0
def impl_TotalOf.f : Nat → Bool → (List T) → Option Int
  | 0, _, _ => none
  | k + 1, a0_0z, a0_0 => impl_TotalOf.b some (impl_TotalOf.l0 k) k a0_0z a0_0
def impl_TotalOf.enc (r : Int) : Res := ⟨[.vals false [((.int .i64 r), true)]], []⟩
def impl_TotalOf.ans (k : Nat) : List Arg → Ans
  | [.v (.agg [(.sl 44 a0_0z a0_0)])] => ⟨impl_TotalOf.f k a0_0z a0_0, impl_TotalOf.enc⟩
  | _ => Ans.no
def impl_TotalOf.Cs (k : Nat) : CallSem := tab [(78, impl_TableOk.ans k)]
def impl_TotalOf.cuts : List (Nat × Keep) := [(58, ⟨[(1, some []), (3, some []), (7, some []), (8, some []), (9, some [])], [(1, [some []])]⟩)]
noncomputable def impl_TotalOf.K0 : List Fr := framesAt [true, true, false, true, false] (bodyOf Try.f50 impl_TotalOf.cuts) []
def impl_TotalOf.N0 (x3 : Int) (x7z : Bool) (x7 : List T) (x8 : Int) (x9 : Int) (c1_0z : Bool) (c1_0 : List T) : St := stOf 21 21 1 [(1, .bp 1 0), (3, .val (V.s (.int .i64 x3))), (7, .val ⟨(.sl 44 x7z x7), [], false, none⟩), (8, .val (V.s (.int .i64 x8))), (9, .val (V.s (.int .i64 x9)))] [(1, .cells [⟨(.sl 44 c1_0z c1_0), [], false, none⟩])]
theorem impl_TotalOf.s (k : Nat) (a0_0z : Bool) (a0_0 : List T) : answer Try.prog impl_TotalOf.Cs 100000 impl_TotalOf.cuts [] Try.f50 (k + 1) [.v (.agg [(.sl 44 a0_0z a0_0)])] = impl_TotalOf.b (fun r => some (impl_TotalOf.enc r)) (fun x3 x7z x7 x8 x9 c1_0z c1_0 => rounds Try.prog impl_TotalOf.Cs (finish Try.prog [] Try.f50 [.v (.agg [(.sl 44 a0_0z a0_0)])]) 100000 k impl_TotalOf.K0 (impl_TotalOf.N0 x3 x7z x7 x8 x9 c1_0z c1_0)) k a0_0z a0_0 := by kernel_rfl
theorem impl_TotalOf.s0 (k : Nat) (G : List Fr → St → Option Res) (a0_0z : Bool) (a0_0 : List T) (yx3 : Int) (yx7z : Bool) (yx7 : List T) (yx8 : Int) (yx9 : Int) (yc1_0z : Bool) (yc1_0 : List T) : resume Try.prog (impl_TotalOf.Cs k) G (finish Try.prog [] Try.f50 [.v (.agg [(.sl 44 a0_0z a0_0)])]) 100000 impl_TotalOf.K0 (impl_TotalOf.N0 yx3 yx7z yx7 yx8 yx9 yc1_0z yc1_0) = impl_TotalOf.l0b (fun r => some (impl_TotalOf.enc r)) (fun x3 x7z x7 x8 x9 c1_0z c1_0 => G impl_TotalOf.K0 (impl_TotalOf.N0 x3 x7z x7 x8 x9 c1_0z c1_0)) k yx3 yx7z yx7 yx8 yx9 yc1_0z yc1_0 := by kernel_rfl
theorem impl_TotalOf.b_nat {R R' : Type} (e : R → R') (ret : Int → Option R) (j0 : Int → Bool → (List T) → Int → Int → Bool → (List T) → Option R) (k : Nat) (a0_0z : Bool) (a0_0 : List T) : impl_TotalOf.b (fun r => (ret r).map e) (fun x3 x7z x7 x8 x9 c1_0z c1_0 => (j0 x3 x7z x7 x8 x9 c1_0z c1_0).map e) k a0_0z a0_0 = (impl_TotalOf.b ret j0 k a0_0z a0_0).map e := by
  unfold impl_TotalOf.b
  repeat' first | with_reducible refine nat_cond ?_ ?_ | with_reducible refine nat_bind fun _ => ?_ | rfl
theorem impl_TotalOf.l0b_nat {R R' : Type} (e : R → R') (ret : Int → Option R) (j0 : Int → Bool → (List T) → Int → Int → Bool → (List T) → Option R) (k : Nat) (x3 : Int) (x7z : Bool) (x7 : List T) (x8 : Int) (x9 : Int) (c1_0z : Bool) (c1_0 : List T) : impl_TotalOf.l0b (fun r => (ret r).map e) (fun x3 x7z x7 x8 x9 c1_0z c1_0 => (j0 x3 x7z x7 x8 x9 c1_0z c1_0).map e) k x3 x7z x7 x8 x9 c1_0z c1_0 = (impl_TotalOf.l0b ret j0 k x3 x7z x7 x8 x9 c1_0z c1_0).map e := by
  unfold impl_TotalOf.l0b
  repeat' first | with_reducible refine nat_cond ?_ ?_ | with_reducible refine nat_bind fun _ => ?_ | rfl
theorem impl_TotalOf.rounds_eq (a0_0z : Bool) (a0_0 : List T) : ∀ k, (∀ (x3 : Int) (x7z : Bool) (x7 : List T) (x8 : Int) (x9 : Int) (c1_0z : Bool) (c1_0 : List T), rounds Try.prog impl_TotalOf.Cs (finish Try.prog [] Try.f50 [.v (.agg [(.sl 44 a0_0z a0_0)])]) 100000 k impl_TotalOf.K0 (impl_TotalOf.N0 x3 x7z x7 x8 x9 c1_0z c1_0) = (impl_TotalOf.l0 k x3 x7z x7 x8 x9 c1_0z c1_0).map impl_TotalOf.enc)
  | 0 => fun _ _ _ _ _ _ _ => rfl
  | k + 1 => by
    have ih := impl_TotalOf.rounds_eq a0_0z a0_0 k
    refine fun _ _ _ _ _ _ _ => ?_
    · refine (impl_TotalOf.s0 k _ a0_0z a0_0 _ _ _ _ _ _ _).trans (Eq.trans ?_ (impl_TotalOf.l0b_nat impl_TotalOf.enc some (impl_TotalOf.l0 k) k _ _ _ _ _ _ _))
      simp only [ih, Option.map_some]
theorem impl_TotalOf.eq (k : Nat) (a0_0z : Bool) (a0_0 : List T) : answer Try.prog impl_TotalOf.Cs 100000 impl_TotalOf.cuts [] Try.f50 (k + 1) [.v (.agg [(.sl 44 a0_0z a0_0)])] = (impl_TotalOf.f (k + 1) a0_0z a0_0).map impl_TotalOf.enc := by
  have ih := impl_TotalOf.rounds_eq a0_0z a0_0 k
  refine (impl_TotalOf.s k a0_0z a0_0).trans (Eq.trans ?_ (impl_TotalOf.b_nat impl_TotalOf.enc some (impl_TotalOf.l0 k) k a0_0z a0_0))
  simp only [ih, Option.map_some]
theorem impl_TotalOf.sound (k : Nat) : SoundF Try.prog 50 (fun a => (impl_TotalOf.ans k a).val) := by
  refine sound_plain (fun args res h => ?_) (fun t n => rfl)
  unfold impl_TotalOf.ans at h
  dsimp only at h
  split at h
  · cases k with
    | zero => cases h
    | succ k =>
      unfold Ans.val at h
      rw [← impl_TotalOf.eq] at h
      exact answer_sound mixed Try.func50 _ _ _ (k + 1) (fun j _ => tab_sound (tab_cons (impl_TableOk.sound j) (tab_nil))) _ _ h
  · exact (Ans.no_val h).elim

/-! loop.example/g00790/impl.IsQuorum -/
def impl_IsQuorum.b {R : Type} (ret : Bool → Option R) (k : Nat) (a0_0z : Bool) (a0_0 : List T) (a1z : Bool) (a1 : List Int) : Option R :=
  (impl_TableOk.f k a0_0z a0_0).bind fun t0 => cond t0 ((impl_WeightOf.f k a0_0z a0_0 a1z a1).bind fun t1 => (impl_TotalOf.f k a0_0z a0_0).bind fun t2 => ret (decide ((RowKit.wrap64 ((3 : Int) * t1)) > (RowKit.wrap64 ((2 : Int) * t2))))) (ret false)
def impl_IsQuorum.f : Nat → Bool → (List T) → Bool → (List Int) → Option Bool
  | 0, _, _, _, _ => none
  | k + 1, a0_0z, a0_0, a1z, a1 => impl_IsQuorum.b some k a0_0z a0_0 a1z a1
def impl_IsQuorum.enc (r : Bool) : Res := ⟨[.vals false [((.bool r), true)]], []⟩
def impl_IsQuorum.ans (k : Nat) : List Arg → Ans
  | [.v (.agg [(.sl 44 a0_0z a0_0)]), .v (.nums 5 .u8 a1z a1)] => ⟨impl_IsQuorum.f k a0_0z a0_0 a1z a1, impl_IsQuorum.enc⟩
  | _ => Ans.no
def impl_IsQuorum.Cs (k : Nat) : CallSem := tab [(78, impl_TableOk.ans k), (49, impl_WeightOf.ans k), (50, impl_TotalOf.ans k)]
def impl_IsQuorum.cuts : List (Nat × Keep) := []
theorem impl_IsQuorum.s (k : Nat) (a0_0z : Bool) (a0_0 : List T) (a1z : Bool) (a1 : List Int) : answer Try.prog impl_IsQuorum.Cs 100000 impl_IsQuorum.cuts [] Try.f31 (k + 1) [.v (.agg [(.sl 44 a0_0z a0_0)]), .v (.nums 5 .u8 a1z a1)] = impl_IsQuorum.b (fun r => some (impl_IsQuorum.enc r)) k a0_0z a0_0 a1z a1 := by kernel_rfl
theorem impl_IsQuorum.b_nat {R R' : Type} (e : R → R') (ret : Bool → Option R) (k : Nat) (a0_0z : Bool) (a0_0 : List T) (a1z : Bool) (a1 : List Int) : impl_IsQuorum.b (fun r => (ret r).map e) k a0_0z a0_0 a1z a1 = (impl_IsQuorum.b ret k a0_0z a0_0 a1z a1).map e := by
  unfold impl_IsQuorum.b
  repeat' first | with_reducible refine nat_cond ?_ ?_ | with_reducible refine nat_bind fun _ => ?_ | rfl
theorem impl_IsQuorum.eq (k : Nat) (a0_0z : Bool) (a0_0 : List T) (a1z : Bool) (a1 : List Int) : answer Try.prog impl_IsQuorum.Cs 100000 impl_IsQuorum.cuts [] Try.f31 (k + 1) [.v (.agg [(.sl 44 a0_0z a0_0)]), .v (.nums 5 .u8 a1z a1)] = (impl_IsQuorum.f (k + 1) a0_0z a0_0 a1z a1).map impl_IsQuorum.enc := by
  refine (impl_IsQuorum.s k a0_0z a0_0 a1z a1).trans (Eq.trans ?_ (impl_IsQuorum.b_nat impl_IsQuorum.enc some k a0_0z a0_0 a1z a1))
  simp only [Option.map_some]
theorem impl_IsQuorum.sound (k : Nat) : SoundF Try.prog 31 (fun a => (impl_IsQuorum.ans k a).val) := by
  refine sound_plain (fun args res h => ?_) (fun t n => rfl)
  unfold impl_IsQuorum.ans at h
  dsimp only at h
  split at h
  · cases k with
    | zero => cases h
    | succ k =>
      unfold Ans.val at h
      rw [← impl_IsQuorum.eq] at h
      exact answer_sound mixed Try.func31 _ _ _ (k + 1) (fun j _ => tab_sound (tab_cons (impl_TableOk.sound j) (tab_cons (impl_WeightOf.sound j) (tab_cons (impl_TotalOf.sound j) (tab_nil))))) _ _ h
  · exact (Ans.no_val h).elim

/-! loop.example/g00790/impl.SameBytes -/
def impl_SameBytes.b {R : Type} (ret : Bool → Option R) (k : Nat) (a0z : Bool) (a0 : List Int) (a1z : Bool) (a1 : List Int) : Option R :=
  ret (decide ((strOf a0) = (strOf a1)))
def impl_SameBytes.f : Nat → Bool → (List Int) → Bool → (List Int) → Option Bool
  | 0, _, _, _, _ => none
  | k + 1, a0z, a0, a1z, a1 => impl_SameBytes.b some k a0z a0 a1z a1
def impl_SameBytes.enc (r : Bool) : Res := ⟨[.vals false [((.bool r), true)]], []⟩
def impl_SameBytes.ans (k : Nat) : List Arg → Ans
  | [.v (.nums 5 .u8 a0z a0), .v (.nums 5 .u8 a1z a1)] => ⟨impl_SameBytes.f k a0z a0 a1z a1, impl_SameBytes.enc⟩
  | _ => Ans.no
def impl_SameBytes.Cs (k : Nat) : CallSem := tab []
def impl_SameBytes.cuts : List (Nat × Keep) := []
theorem impl_SameBytes.s (k : Nat) (a0z : Bool) (a0 : List Int) (a1z : Bool) (a1 : List Int) : answer Try.prog impl_SameBytes.Cs 100000 impl_SameBytes.cuts [] Try.f32 (k + 1) [.v (.nums 5 .u8 a0z a0), .v (.nums 5 .u8 a1z a1)] = impl_SameBytes.b (fun r => some (impl_SameBytes.enc r)) k a0z a0 a1z a1 := by kernel_rfl
theorem impl_SameBytes.b_nat {R R' : Type} (e : R → R') (ret : Bool → Option R) (k : Nat) (a0z : Bool) (a0 : List Int) (a1z : Bool) (a1 : List Int) : impl_SameBytes.b (fun r => (ret r).map e) k a0z a0 a1z a1 = (impl_SameBytes.b ret k a0z a0 a1z a1).map e := by
  unfold impl_SameBytes.b
  repeat' first | with_reducible refine nat_cond ?_ ?_ | with_reducible refine nat_bind fun _ => ?_ | rfl
theorem impl_SameBytes.eq (k : Nat) (a0z : Bool) (a0 : List Int) (a1z : Bool) (a1 : List Int) : answer Try.prog impl_SameBytes.Cs 100000 impl_SameBytes.cuts [] Try.f32 (k + 1) [.v (.nums 5 .u8 a0z a0), .v (.nums 5 .u8 a1z a1)] = (impl_SameBytes.f (k + 1) a0z a0 a1z a1).map impl_SameBytes.enc := by
  refine (impl_SameBytes.s k a0z a0 a1z a1).trans (Eq.trans ?_ (impl_SameBytes.b_nat impl_SameBytes.enc some k a0z a0 a1z a1))
  simp only [Option.map_some]
theorem impl_SameBytes.sound (k : Nat) : SoundF Try.prog 32 (fun a => (impl_SameBytes.ans k a).val) := by
  refine sound_plain (fun args res h => ?_) (fun t n => rfl)
  unfold impl_SameBytes.ans at h
  dsimp only at h
  split at h
  · cases k with
    | zero => cases h
    | succ k =>
      unfold Ans.val at h
      rw [← impl_SameBytes.eq] at h
      exact answer_sound mixed Try.func32 _ _ _ (k + 1) (fun j _ => tab_sound (tab_nil)) _ _ h
  · exact (Ans.no_val h).elim

/-! loop.example/g00790/impl.QcVotes -/
def impl_QcVotes.b {R : Type} (ret : Bool × List T → Option R) (j0 : (List T) → Bool → (List Int) → Int → Int → Int → Int → Bool → (List Int) → Bool → (List Int) → Bool → (List T) → Option R) (k : Nat) (a0_0 : Int) (a0_1 : Int) (a0_2z : Bool) (a0_2 : List Int) (a0_3z : Bool) (a0_3 : List Int) (a0_4z : Bool) (a0_4 : List T) : Option R :=
  (impl_BitsCount.f k a0_3z a0_3).bind fun t0 => cond (!(decide (((a0_4).length : Int) = t0))) (ret (true, ([] : List T))) ((impl_BitsList.f k a0_3z a0_3).bind fun t1 => j0 ([] : List T) t1.1 t1.2 ((t1.2).length : Int) 0 a0_0 a0_1 a0_2z a0_2 a0_3z a0_3 a0_4z a0_4)
def impl_QcVotes.l0b {R : Type} (ret : Bool × List T → Option R) (j0 : (List T) → Bool → (List Int) → Int → Int → Int → Int → Bool → (List Int) → Bool → (List Int) → Bool → (List T) → Option R) (k : Nat) (x3 : List T) (x16z : Bool) (x16 : List Int) (x17 : Int) (x18 : Int) (c1_0 : Int) (c1_1 : Int) (c1_2z : Bool) (c1_2 : List Int) (c1_3z : Bool) (c1_3 : List Int) (c1_4z : Bool) (c1_4 : List T) : Option R :=
  cond (decide (x18 < x17)) (cond (decide ((0 : Int) ≤ x18)) (cond (decide (x18 < ((x16).length : Int))) ((impl_copyBytes.f k c1_2z c1_2).bind fun t0 => cond (decide ((0 : Int) ≤ x18)) (cond (decide (x18 < ((c1_4).length : Int))) ((impl_copyBytes.f k (((((c1_4).getD (x18).toNat .bad).cells.getD 0 .bad)).isNil) (((((c1_4).getD (x18).toNat .bad).cells.getD 0 .bad)).toNums)).bind fun t1 => cond (decide ((x3).length + 1 < 1954687338268)) (j0 (x3 ++ ([(.agg [(.int .i64 c1_0), (.int .i64 c1_1), (.nums 5 .u8 t0.1 t0.2), (.int .i64 (rdI x16 x18)), (.nums 5 .u8 t1.1 t1.2)])] : List T)) x16z x16 x17 (RowKit.wrap64 (x18 + 1)) c1_0 c1_1 c1_2z c1_2 c1_3z c1_3 c1_4z c1_4) (none)) (none)) (none)) (none)) (none)) (ret (false, x3))
def impl_QcVotes.l0 : Nat → (List T) → Bool → (List Int) → Int → Int → Int → Int → Bool → (List Int) → Bool → (List Int) → Bool → (List T) → Option (Bool × List T)
  | 0, _, _, _, _, _, _, _, _, _, _, _, _, _ => none
  | k + 1, x3, x16z, x16, x17, x18, c1_0, c1_1, c1_2z, c1_2, c1_3z, c1_3, c1_4z, c1_4 => impl_QcVotes.l0b some (impl_QcVotes.l0 k) k x3 x16z x16 x17 x18 c1_0 c1_1 c1_2z c1_2 c1_3z c1_3 c1_4z c1_4
def impl_QcVotes.f : Nat → Int → Int → Bool → (List Int) → Bool → (List Int) → Bool → (List T) → Option (Bool × List T)
  | 0, _, _, _, _, _, _, _, _ => none
  | k + 1, a0_0, a0_1, a0_2z, a0_2, a0_3z, a0_3, a0_4z, a0_4 => impl_QcVotes.b some (impl_QcVotes.l0 k) k a0_0 a0_1 a0_2z a0_2 a0_3z a0_3 a0_4z a0_4
def impl_QcVotes.enc (r : Bool × List T) : Res := ⟨[.vals false [((.sl 33 r.1 r.2), true)]], []⟩
def impl_QcVotes.ans (k : Nat) : List Arg → Ans
  | [.v (.agg [(.int .i64 a0_0), (.int .i64 a0_1), (.nums 5 .u8 a0_2z a0_2), (.nums 5 .u8 a0_3z a0_3), (.sl 22 a0_4z a0_4)])] => ⟨impl_QcVotes.f k a0_0 a0_1 a0_2z a0_2 a0_3z a0_3 a0_4z a0_4, impl_QcVotes.enc⟩
  | _ => Ans.no
def impl_QcVotes.Cs (k : Nat) : CallSem := tab [(89, impl_BitsList.ans k), (80, impl_copyBytes.ans k), (25, impl_BitsCount.ans k)]
def impl_QcVotes.cuts : List (Nat × Keep) := [(122, ⟨[(1, some []), (3, none), (16, none), (17, some []), (18, some [])], [(1, [some [], some [], some [], some [], some []])]⟩)]
noncomputable def impl_QcVotes.K0 : List Fr := framesAt [true, true, true, false, true, false] (bodyOf Try.f24 impl_QcVotes.cuts) []
def impl_QcVotes.N0 (x3 : List T) (x16z : Bool) (x16 : List Int) (x17 : Int) (x18 : Int) (c1_0 : Int) (c1_1 : Int) (c1_2z : Bool) (c1_2 : List Int) (c1_3z : Bool) (c1_3 : List Int) (c1_4z : Bool) (c1_4 : List T) : St := stOf 43 43 1 [(1, .bp 1 0), (3, .val ⟨(.sl 33 false x3), [.l 3 0], true, some (.l 3 0)⟩), (16, .val ⟨(.nums 3 .i64 x16z x16), [.l 16 0], true, some (.l 16 0)⟩), (17, .val (V.s (.int .i64 x17))), (18, .val (V.s (.int .i64 x18)))] [(1, .cells [V.s (.int .i64 c1_0), V.s (.int .i64 c1_1), ⟨(.nums 5 .u8 c1_2z c1_2), [], false, none⟩, ⟨(.nums 5 .u8 c1_3z c1_3), [], false, none⟩, ⟨(.sl 22 c1_4z c1_4), [], false, none⟩])]
theorem impl_QcVotes.s (k : Nat) (a0_0 : Int) (a0_1 : Int) (a0_2z : Bool) (a0_2 : List Int) (a0_3z : Bool) (a0_3 : List Int) (a0_4z : Bool) (a0_4 : List T) : answer Try.prog impl_QcVotes.Cs 100000 impl_QcVotes.cuts [] Try.f24 (k + 1) [.v (.agg [(.int .i64 a0_0), (.int .i64 a0_1), (.nums 5 .u8 a0_2z a0_2), (.nums 5 .u8 a0_3z a0_3), (.sl 22 a0_4z a0_4)])] = impl_QcVotes.b (fun r => some (impl_QcVotes.enc r)) (fun x3 x16z x16 x17 x18 c1_0 c1_1 c1_2z c1_2 c1_3z c1_3 c1_4z c1_4 => rounds Try.prog impl_QcVotes.Cs (finish Try.prog [] Try.f24 [.v (.agg [(.int .i64 a0_0), (.int .i64 a0_1), (.nums 5 .u8 a0_2z a0_2), (.nums 5 .u8 a0_3z a0_3), (.sl 22 a0_4z a0_4)])]) 100000 k impl_QcVotes.K0 (impl_QcVotes.N0 x3 x16z x16 x17 x18 c1_0 c1_1 c1_2z c1_2 c1_3z c1_3 c1_4z c1_4)) k a0_0 a0_1 a0_2z a0_2 a0_3z a0_3 a0_4z a0_4 := by kernel_rfl
theorem impl_QcVotes.s0 (k : Nat) (G : List Fr → St → Option Res) (a0_0 : Int) (a0_1 : Int) (a0_2z : Bool) (a0_2 : List Int) (a0_3z : Bool) (a0_3 : List Int) (a0_4z : Bool) (a0_4 : List T) (yx3 : List T) (yx16z : Bool) (yx16 : List Int) (yx17 : Int) (yx18 : Int) (yc1_0 : Int) (yc1_1 : Int) (yc1_2z : Bool) (yc1_2 : List Int) (yc1_3z : Bool) (yc1_3 : List Int) (yc1_4z : Bool) (yc1_4 : List T) : resume Try.prog (impl_QcVotes.Cs k) G (finish Try.prog [] Try.f24 [.v (.agg [(.int .i64 a0_0), (.int .i64 a0_1), (.nums 5 .u8 a0_2z a0_2), (.nums 5 .u8 a0_3z a0_3), (.sl 22 a0_4z a0_4)])]) 100000 impl_QcVotes.K0 (impl_QcVotes.N0 yx3 yx16z yx16 yx17 yx18 yc1_0 yc1_1 yc1_2z yc1_2 yc1_3z yc1_3 yc1_4z yc1_4) = impl_QcVotes.l0b (fun r => some (impl_QcVotes.enc r)) (fun x3 x16z x16 x17 x18 c1_0 c1_1 c1_2z c1_2 c1_3z c1_3 c1_4z c1_4 => G impl_QcVotes.K0 (impl_QcVotes.N0 x3 x16z x16 x17 x18 c1_0 c1_1 c1_2z c1_2 c1_3z c1_3 c1_4z c1_4)) k yx3 yx16z yx16 yx17 yx18 yc1_0 yc1_1 yc1_2z yc1_2 yc1_3z yc1_3 yc1_4z yc1_4 := by kernel_rfl
theorem impl_QcVotes.b_nat {R R' : Type} (e : R → R') (ret : Bool × List T → Option R) (j0 : (List T) → Bool → (List Int) → Int → Int → Int → Int → Bool → (List Int) → Bool → (List Int) → Bool → (List T) → Option R) (k : Nat) (a0_0 : Int) (a0_1 : Int) (a0_2z : Bool) (a0_2 : List Int) (a0_3z : Bool) (a0_3 : List Int) (a0_4z : Bool) (a0_4 : List T) : impl_QcVotes.b (fun r => (ret r).map e) (fun x3 x16z x16 x17 x18 c1_0 c1_1 c1_2z c1_2 c1_3z c1_3 c1_4z c1_4 => (j0 x3 x16z x16 x17 x18 c1_0 c1_1 c1_2z c1_2 c1_3z c1_3 c1_4z c1_4).map e) k a0_0 a0_1 a0_2z a0_2 a0_3z a0_3 a0_4z a0_4 = (impl_QcVotes.b ret j0 k a0_0 a0_1 a0_2z a0_2 a0_3z a0_3 a0_4z a0_4).map e := by
  unfold impl_QcVotes.b
  repeat' first | with_reducible refine nat_cond ?_ ?_ | with_reducible refine nat_bind fun _ => ?_ | rfl
theorem impl_QcVotes.l0b_nat {R R' : Type} (e : R → R') (ret : Bool × List T → Option R) (j0 : (List T) → Bool → (List Int) → Int → Int → Int → Int → Bool → (List Int) → Bool → (List Int) → Bool → (List T) → Option R) (k : Nat) (x3 : List T) (x16z : Bool) (x16 : List Int) (x17 : Int) (x18 : Int) (c1_0 : Int) (c1_1 : Int) (c1_2z : Bool) (c1_2 : List Int) (c1_3z : Bool) (c1_3 : List Int) (c1_4z : Bool) (c1_4 : List T) : impl_QcVotes.l0b (fun r => (ret r).map e) (fun x3 x16z x16 x17 x18 c1_0 c1_1 c1_2z c1_2 c1_3z c1_3 c1_4z c1_4 => (j0 x3 x16z x16 x17 x18 c1_0 c1_1 c1_2z c1_2 c1_3z c1_3 c1_4z c1_4).map e) k x3 x16z x16 x17 x18 c1_0 c1_1 c1_2z c1_2 c1_3z c1_3 c1_4z c1_4 = (impl_QcVotes.l0b ret j0 k x3 x16z x16 x17 x18 c1_0 c1_1 c1_2z c1_2 c1_3z c1_3 c1_4z c1_4).map e := by
  unfold impl_QcVotes.l0b
  repeat' first | with_reducible refine nat_cond ?_ ?_ | with_reducible refine nat_bind fun _ => ?_ | rfl
theorem impl_QcVotes.rounds_eq (a0_0 : Int) (a0_1 : Int) (a0_2z : Bool) (a0_2 : List Int) (a0_3z : Bool) (a0_3 : List Int) (a0_4z : Bool) (a0_4 : List T) : ∀ k, (∀ (x3 : List T) (x16z : Bool) (x16 : List Int) (x17 : Int) (x18 : Int) (c1_0 : Int) (c1_1 : Int) (c1_2z : Bool) (c1_2 : List Int) (c1_3z : Bool) (c1_3 : List Int) (c1_4z : Bool) (c1_4 : List T), rounds Try.prog impl_QcVotes.Cs (finish Try.prog [] Try.f24 [.v (.agg [(.int .i64 a0_0), (.int .i64 a0_1), (.nums 5 .u8 a0_2z a0_2), (.nums 5 .u8 a0_3z a0_3), (.sl 22 a0_4z a0_4)])]) 100000 k impl_QcVotes.K0 (impl_QcVotes.N0 x3 x16z x16 x17 x18 c1_0 c1_1 c1_2z c1_2 c1_3z c1_3 c1_4z c1_4) = (impl_QcVotes.l0 k x3 x16z x16 x17 x18 c1_0 c1_1 c1_2z c1_2 c1_3z c1_3 c1_4z c1_4).map impl_QcVotes.enc)
  | 0 => fun _ _ _ _ _ _ _ _ _ _ _ _ _ => rfl
  | k + 1 => by
    have ih := impl_QcVotes.rounds_eq a0_0 a0_1 a0_2z a0_2 a0_3z a0_3 a0_4z a0_4 k
    refine fun _ _ _ _ _ _ _ _ _ _ _ _ _ => ?_
    · refine (impl_QcVotes.s0 k _ a0_0 a0_1 a0_2z a0_2 a0_3z a0_3 a0_4z a0_4 _ _ _ _ _ _ _ _ _ _ _ _ _).trans (Eq.trans ?_ (impl_QcVotes.l0b_nat impl_QcVotes.enc some (impl_QcVotes.l0 k) k _ _ _ _ _ _ _ _ _ _ _ _ _))
      simp only [ih, Option.map_some]
theorem impl_QcVotes.eq (k : Nat) (a0_0 : Int) (a0_1 : Int) (a0_2z : Bool) (a0_2 : List Int) (a0_3z : Bool) (a0_3 : List Int) (a0_4z : Bool) (a0_4 : List T) : answer Try.prog impl_QcVotes.Cs 100000 impl_QcVotes.cuts [] Try.f24 (k + 1) [.v (.agg [(.int .i64 a0_0), (.int .i64 a0_1), (.nums 5 .u8 a0_2z a0_2), (.nums 5 .u8 a0_3z a0_3), (.sl 22 a0_4z a0_4)])] = (impl_QcVotes.f (k + 1) a0_0 a0_1 a0_2z a0_2 a0_3z a0_3 a0_4z a0_4).map impl_QcVotes.enc := by
  have ih := impl_QcVotes.rounds_eq a0_0 a0_1 a0_2z a0_2 a0_3z a0_3 a0_4z a0_4 k
  refine (impl_QcVotes.s k a0_0 a0_1 a0_2z a0_2 a0_3z a0_3 a0_4z a0_4).trans (Eq.trans ?_ (impl_QcVotes.b_nat impl_QcVotes.enc some (impl_QcVotes.l0 k) k a0_0 a0_1 a0_2z a0_2 a0_3z a0_3 a0_4z a0_4))
  simp only [ih, Option.map_some]
theorem impl_QcVotes.sound (k : Nat) : SoundF Try.prog 24 (fun a => (impl_QcVotes.ans k a).val) := by
  refine sound_plain (fun args res h => ?_) (fun t n => rfl)
  unfold impl_QcVotes.ans at h
  dsimp only at h
  split at h
  · cases k with
    | zero => cases h
    | succ k =>
      unfold Ans.val at h
      rw [← impl_QcVotes.eq] at h
      exact answer_sound mixed Try.func24 _ _ _ (k + 1) (fun j _ => tab_sound (tab_cons (impl_BitsList.sound j) (tab_cons (impl_copyBytes.sound j) (tab_cons (impl_BitsCount.sound j) (tab_nil))))) _ _ h
  · exact (Ans.no_val h).elim

/-! loop.example/g00790/impl.VoteSame -/
def impl_VoteSame.b {R : Type} (ret : Bool → Option R) (k : Nat) (a0_0 : Int) (a0_1 : Int) (a0_2z : Bool) (a0_2 : List Int) (a0_3 : Int) (a0_4z : Bool) (a0_4 : List Int) (a1_0 : Int) (a1_1 : Int) (a1_2z : Bool) (a1_2 : List Int) (a1_3 : Int) (a1_4z : Bool) (a1_4 : List Int) : Option R :=
  cond (decide (a0_0 = a1_0)) (cond (decide (a0_1 = a1_1)) (cond (decide (a0_3 = a1_3)) ((impl_SameBytes.f k a0_2z a0_2 a1_2z a1_2).bind fun t0 => cond t0 ((impl_SameBytes.f k a0_4z a0_4 a1_4z a1_4).bind fun t1 => ret t1) (ret false)) (ret false)) (ret false)) (ret false)
def impl_VoteSame.f : Nat → Int → Int → Bool → (List Int) → Int → Bool → (List Int) → Int → Int → Bool → (List Int) → Int → Bool → (List Int) → Option Bool
  | 0, _, _, _, _, _, _, _, _, _, _, _, _, _, _ => none
  | k + 1, a0_0, a0_1, a0_2z, a0_2, a0_3, a0_4z, a0_4, a1_0, a1_1, a1_2z, a1_2, a1_3, a1_4z, a1_4 => impl_VoteSame.b some k a0_0 a0_1 a0_2z a0_2 a0_3 a0_4z a0_4 a1_0 a1_1 a1_2z a1_2 a1_3 a1_4z a1_4
def impl_VoteSame.enc (r : Bool) : Res := ⟨[.vals false [((.bool r), true)]], []⟩
def impl_VoteSame.ans (k : Nat) : List Arg → Ans
  | [.v (.agg [(.int .i64 a0_0), (.int .i64 a0_1), (.nums 5 .u8 a0_2z a0_2), (.int .i64 a0_3), (.nums 5 .u8 a0_4z a0_4)]), .v (.agg [(.int .i64 a1_0), (.int .i64 a1_1), (.nums 5 .u8 a1_2z a1_2), (.int .i64 a1_3), (.nums 5 .u8 a1_4z a1_4)])] => ⟨impl_VoteSame.f k a0_0 a0_1 a0_2z a0_2 a0_3 a0_4z a0_4 a1_0 a1_1 a1_2z a1_2 a1_3 a1_4z a1_4, impl_VoteSame.enc⟩
  | _ => Ans.no
def impl_VoteSame.Cs (k : Nat) : CallSem := tab [(32, impl_SameBytes.ans k)]
def impl_VoteSame.cuts : List (Nat × Keep) := []
theorem impl_VoteSame.s (k : Nat) (a0_0 : Int) (a0_1 : Int) (a0_2z : Bool) (a0_2 : List Int) (a0_3 : Int) (a0_4z : Bool) (a0_4 : List Int) (a1_0 : Int) (a1_1 : Int) (a1_2z : Bool) (a1_2 : List Int) (a1_3 : Int) (a1_4z : Bool) (a1_4 : List Int) : answer Try.prog impl_VoteSame.Cs 100000 impl_VoteSame.cuts [] Try.f82 (k + 1) [.v (.agg [(.int .i64 a0_0), (.int .i64 a0_1), (.nums 5 .u8 a0_2z a0_2), (.int .i64 a0_3), (.nums 5 .u8 a0_4z a0_4)]), .v (.agg [(.int .i64 a1_0), (.int .i64 a1_1), (.nums 5 .u8 a1_2z a1_2), (.int .i64 a1_3), (.nums 5 .u8 a1_4z a1_4)])] = impl_VoteSame.b (fun r => some (impl_VoteSame.enc r)) k a0_0 a0_1 a0_2z a0_2 a0_3 a0_4z a0_4 a1_0 a1_1 a1_2z a1_2 a1_3 a1_4z a1_4 := by kernel_rfl
theorem impl_VoteSame.b_nat {R R' : Type} (e : R → R') (ret : Bool → Option R) (k : Nat) (a0_0 : Int) (a0_1 : Int) (a0_2z : Bool) (a0_2 : List Int) (a0_3 : Int) (a0_4z : Bool) (a0_4 : List Int) (a1_0 : Int) (a1_1 : Int) (a1_2z : Bool) (a1_2 : List Int) (a1_3 : Int) (a1_4z : Bool) (a1_4 : List Int) : impl_VoteSame.b (fun r => (ret r).map e) k a0_0 a0_1 a0_2z a0_2 a0_3 a0_4z a0_4 a1_0 a1_1 a1_2z a1_2 a1_3 a1_4z a1_4 = (impl_VoteSame.b ret k a0_0 a0_1 a0_2z a0_2 a0_3 a0_4z a0_4 a1_0 a1_1 a1_2z a1_2 a1_3 a1_4z a1_4).map e := by
  unfold impl_VoteSame.b
  repeat' first | with_reducible refine nat_cond ?_ ?_ | with_reducible refine nat_bind fun _ => ?_ | rfl
theorem impl_VoteSame.eq (k : Nat) (a0_0 : Int) (a0_1 : Int) (a0_2z : Bool) (a0_2 : List Int) (a0_3 : Int) (a0_4z : Bool) (a0_4 : List Int) (a1_0 : Int) (a1_1 : Int) (a1_2z : Bool) (a1_2 : List Int) (a1_3 : Int) (a1_4z : Bool) (a1_4 : List Int) : answer Try.prog impl_VoteSame.Cs 100000 impl_VoteSame.cuts [] Try.f82 (k + 1) [.v (.agg [(.int .i64 a0_0), (.int .i64 a0_1), (.nums 5 .u8 a0_2z a0_2), (.int .i64 a0_3), (.nums 5 .u8 a0_4z a0_4)]), .v (.agg [(.int .i64 a1_0), (.int .i64 a1_1), (.nums 5 .u8 a1_2z a1_2), (.int .i64 a1_3), (.nums 5 .u8 a1_4z a1_4)])] = (impl_VoteSame.f (k + 1) a0_0 a0_1 a0_2z a0_2 a0_3 a0_4z a0_4 a1_0 a1_1 a1_2z a1_2 a1_3 a1_4z a1_4).map impl_VoteSame.enc := by
  refine (impl_VoteSame.s k a0_0 a0_1 a0_2z a0_2 a0_3 a0_4z a0_4 a1_0 a1_1 a1_2z a1_2 a1_3 a1_4z a1_4).trans (Eq.trans ?_ (impl_VoteSame.b_nat impl_VoteSame.enc some k a0_0 a0_1 a0_2z a0_2 a0_3 a0_4z a0_4 a1_0 a1_1 a1_2z a1_2 a1_3 a1_4z a1_4))
  simp only [Option.map_some]
theorem impl_VoteSame.sound (k : Nat) : SoundF Try.prog 82 (fun a => (impl_VoteSame.ans k a).val) := by
  refine sound_plain (fun args res h => ?_) (fun t n => rfl)
  unfold impl_VoteSame.ans at h
  dsimp only at h
  split at h
  · cases k with
    | zero => cases h
    | succ k =>
      unfold Ans.val at h
      rw [← impl_VoteSame.eq] at h
      exact answer_sound mixed Try.func82 _ _ _ (k + 1) (fun j _ => tab_sound (tab_cons (impl_SameBytes.sound j) (tab_nil))) _ _ h
  · exact (Ans.no_val h).elim

/-! loop.example/g00790/impl.VoteGood -/
def impl_VoteGood.b {R : Type} (ret : Bool → Option R) (k : Nat) (a0_0z : Bool) (a0_0 : List T) (a1_0 : Int) (a1_1 : Int) (a1_2z : Bool) (a1_2 : List Int) (a1_3 : Int) (a1_4z : Bool) (a1_4 : List Int) : Option R :=
  (impl_SignVote.f k a0_0z a0_0 a1_0 a1_1 a1_2z a1_2 a1_3).bind fun t0 => cond t0.2.2.2.2.2.2.2 ((impl_VoteSame.f k t0.1 t0.2.1 t0.2.2.1 t0.2.2.2.1 t0.2.2.2.2.1 t0.2.2.2.2.2.1 t0.2.2.2.2.2.2.1 a1_0 a1_1 a1_2z a1_2 a1_3 a1_4z a1_4).bind fun t1 => ret t1) (ret false)
def impl_VoteGood.f : Nat → Bool → (List T) → Int → Int → Bool → (List Int) → Int → Bool → (List Int) → Option Bool
  | 0, _, _, _, _, _, _, _, _, _ => none
  | k + 1, a0_0z, a0_0, a1_0, a1_1, a1_2z, a1_2, a1_3, a1_4z, a1_4 => impl_VoteGood.b some k a0_0z a0_0 a1_0 a1_1 a1_2z a1_2 a1_3 a1_4z a1_4
def impl_VoteGood.enc (r : Bool) : Res := ⟨[.vals false [((.bool r), true)]], []⟩
def impl_VoteGood.ans (k : Nat) : List Arg → Ans
  | [.v (.agg [(.sl 44 a0_0z a0_0)]), .v (.agg [(.int .i64 a1_0), (.int .i64 a1_1), (.nums 5 .u8 a1_2z a1_2), (.int .i64 a1_3), (.nums 5 .u8 a1_4z a1_4)])] => ⟨impl_VoteGood.f k a0_0z a0_0 a1_0 a1_1 a1_2z a1_2 a1_3 a1_4z a1_4, impl_VoteGood.enc⟩
  | _ => Ans.no
def impl_VoteGood.Cs (k : Nat) : CallSem := tab [(15, impl_SignVote.ans k), (82, impl_VoteSame.ans k)]
def impl_VoteGood.cuts : List (Nat × Keep) := []
theorem impl_VoteGood.s (k : Nat) (a0_0z : Bool) (a0_0 : List T) (a1_0 : Int) (a1_1 : Int) (a1_2z : Bool) (a1_2 : List Int) (a1_3 : Int) (a1_4z : Bool) (a1_4 : List Int) : answer Try.prog impl_VoteGood.Cs 100000 impl_VoteGood.cuts [] Try.f17 (k + 1) [.v (.agg [(.sl 44 a0_0z a0_0)]), .v (.agg [(.int .i64 a1_0), (.int .i64 a1_1), (.nums 5 .u8 a1_2z a1_2), (.int .i64 a1_3), (.nums 5 .u8 a1_4z a1_4)])] = impl_VoteGood.b (fun r => some (impl_VoteGood.enc r)) k a0_0z a0_0 a1_0 a1_1 a1_2z a1_2 a1_3 a1_4z a1_4 := by kernel_rfl
theorem impl_VoteGood.b_nat {R R' : Type} (e : R → R') (ret : Bool → Option R) (k : Nat) (a0_0z : Bool) (a0_0 : List T) (a1_0 : Int) (a1_1 : Int) (a1_2z : Bool) (a1_2 : List Int) (a1_3 : Int) (a1_4z : Bool) (a1_4 : List Int) : impl_VoteGood.b (fun r => (ret r).map e) k a0_0z a0_0 a1_0 a1_1 a1_2z a1_2 a1_3 a1_4z a1_4 = (impl_VoteGood.b ret k a0_0z a0_0 a1_0 a1_1 a1_2z a1_2 a1_3 a1_4z a1_4).map e := by
  unfold impl_VoteGood.b
  repeat' first | with_reducible refine nat_cond ?_ ?_ | with_reducible refine nat_bind fun _ => ?_ | rfl
theorem impl_VoteGood.eq (k : Nat) (a0_0z : Bool) (a0_0 : List T) (a1_0 : Int) (a1_1 : Int) (a1_2z : Bool) (a1_2 : List Int) (a1_3 : Int) (a1_4z : Bool) (a1_4 : List Int) : answer Try.prog impl_VoteGood.Cs 100000 impl_VoteGood.cuts [] Try.f17 (k + 1) [.v (.agg [(.sl 44 a0_0z a0_0)]), .v (.agg [(.int .i64 a1_0), (.int .i64 a1_1), (.nums 5 .u8 a1_2z a1_2), (.int .i64 a1_3), (.nums 5 .u8 a1_4z a1_4)])] = (impl_VoteGood.f (k + 1) a0_0z a0_0 a1_0 a1_1 a1_2z a1_2 a1_3 a1_4z a1_4).map impl_VoteGood.enc := by
  refine (impl_VoteGood.s k a0_0z a0_0 a1_0 a1_1 a1_2z a1_2 a1_3 a1_4z a1_4).trans (Eq.trans ?_ (impl_VoteGood.b_nat impl_VoteGood.enc some k a0_0z a0_0 a1_0 a1_1 a1_2z a1_2 a1_3 a1_4z a1_4))
  simp only [Option.map_some]
theorem impl_VoteGood.sound (k : Nat) : SoundF Try.prog 17 (fun a => (impl_VoteGood.ans k a).val) := by
  refine sound_plain (fun args res h => ?_) (fun t n => rfl)
  unfold impl_VoteGood.ans at h
  dsimp only at h
  split at h
  · cases k with
    | zero => cases h
    | succ k =>
      unfold Ans.val at h
      rw [← impl_VoteGood.eq] at h
      exact answer_sound mixed Try.func17 _ _ _ (k + 1) (fun j _ => tab_sound (tab_cons (impl_SignVote.sound j) (tab_cons (impl_VoteSame.sound j) (tab_nil)))) _ _ h
  · exact (Ans.no_val h).elim

end Go.Proofs.YtbpcnodmgphinaaG
