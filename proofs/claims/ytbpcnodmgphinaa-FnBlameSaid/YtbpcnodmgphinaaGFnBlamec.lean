/- What the functions compute, printed by a program of this repo; each is shown to be what the machine of values answers. No condition. -/
import Derived.Test.YtbpcnodmgphinaaProg
import Derived.KernelRfl
import Derived.Test.YtbpcnodmgphinaaGFnBlameb
namespace Go.Proofs.YtbpcnodmgphinaaG
open Go Go.Proofs.YtbpcnodmgphinaaRv Go.Proofs
set_option linter.unusedVariables false
set_option linter.unusedSimpArgs false
/-! loop.example/g00790/impl.BuildQc -/
def impl_BuildQc.b {R : Type} (ret : Int × Int × Bool × (List Int) × Bool × (List Int) × Bool × (List T) × Bool → Option R) (j0 : Int → Int → Bool → (List Int) → Bool → (List Int) → Int → Int → Int → Int → Int → Int → Int → Bool → (List T) → Int → Int → Bool → (List Int) → Bool → (List Int) → Bool → (List T) → Option R) (k : Nat) (a0_0 : Int) (a0_1 : Int) (a0_2 : Int) (a0_3 : Int) (a0_4 : Int) (a1_0z : Bool) (a1_0 : List T) (a2 : Int) (a3 : Int) (a4z : Bool) (a4 : List Int) (a5z : Bool) (a5 : List Int) : Option R :=
  (impl_belongs.f k a0_0 a0_1 a0_2 a0_3 a0_4 a1_0z a1_0).bind fun t0 => cond (!t0) (ret (0, 0, true, ([] : List Int), true, ([] : List Int), true, ([] : List T), false)) ((impl_BitsOk.f k a5z a5 a0_0).bind fun t1 => cond (!t1) (ret (0, 0, true, ([] : List Int), true, ([] : List Int), true, ([] : List T), false)) ((impl_copyBytes.f k a4z a4).bind fun t2 => (impl_copyBytes.f k a5z a5).bind fun t3 => (impl_BitsList.f k a5z a5).bind fun t4 => j0 a2 a3 a4z a4 t4.1 t4.2 ((t4.2).length : Int) 0 a0_0 a0_1 a0_2 a0_3 a0_4 a1_0z a1_0 a2 a3 t2.1 t2.2 t3.1 t3.2 true ([] : List T)))
def impl_BuildQc.l0b {R : Type} (ret : Int × Int × Bool × (List Int) × Bool × (List Int) × Bool × (List T) × Bool → Option R) (j0 : Int → Int → Bool → (List Int) → Bool → (List Int) → Int → Int → Int → Int → Int → Int → Int → Bool → (List T) → Int → Int → Bool → (List Int) → Bool → (List Int) → Bool → (List T) → Option R) (k : Nat) (x2 : Int) (x3 : Int) (x4z : Bool) (x4 : List Int) (x39z : Bool) (x39 : List Int) (x40 : Int) (x41 : Int) (c6_0 : Int) (c6_1 : Int) (c6_2 : Int) (c6_3 : Int) (c6_4 : Int) (c7_0z : Bool) (c7_0 : List T) (c14_0 : Int) (c14_1 : Int) (c14_2z : Bool) (c14_2 : List Int) (c14_3z : Bool) (c14_3 : List Int) (c14_4z : Bool) (c14_4 : List T) : Option R :=
  cond (decide (x41 < x40)) (cond (decide ((0 : Int) ≤ x41)) (cond (decide (x41 < ((x39).length : Int))) ((impl_SignVote.f k c7_0z c7_0 x2 x3 x4z x4 (rdI x39 x41)).bind fun t0 => cond (decide ((c14_4).length + 1 < 5864062014805)) (j0 x2 x3 x4z x4 x39z x39 x40 (RowKit.wrap64 (x41 + 1)) c6_0 c6_1 c6_2 c6_3 c6_4 c7_0z c7_0 c14_0 c14_1 c14_2z c14_2 c14_3z c14_3 false (c14_4 ++ ([(.nums 5 .u8 t0.2.2.2.2.2.1 t0.2.2.2.2.2.2.1)] : List T))) (none)) (none)) (none)) ((impl_QcOk.f k c6_0 c6_1 c6_2 c6_3 c6_4 c14_0 c14_1 c14_2z c14_2 c14_3z c14_3 c14_4z c14_4).bind fun t0 => cond (!t0) (ret (0, 0, true, ([] : List Int), true, ([] : List Int), true, ([] : List T), false)) (ret (c14_0, c14_1, c14_2z, c14_2, c14_3z, c14_3, c14_4z, c14_4, true)))
def impl_BuildQc.l0 : Nat → Int → Int → Bool → (List Int) → Bool → (List Int) → Int → Int → Int → Int → Int → Int → Int → Bool → (List T) → Int → Int → Bool → (List Int) → Bool → (List Int) → Bool → (List T) → Option (Int × Int × Bool × (List Int) × Bool × (List Int) × Bool × (List T) × Bool)
  | 0, _, _, _, _, _, _, _, _, _, _, _, _, _, _, _, _, _, _, _, _, _, _, _ => none
  | k + 1, x2, x3, x4z, x4, x39z, x39, x40, x41, c6_0, c6_1, c6_2, c6_3, c6_4, c7_0z, c7_0, c14_0, c14_1, c14_2z, c14_2, c14_3z, c14_3, c14_4z, c14_4 => impl_BuildQc.l0b some (impl_BuildQc.l0 k) k x2 x3 x4z x4 x39z x39 x40 x41 c6_0 c6_1 c6_2 c6_3 c6_4 c7_0z c7_0 c14_0 c14_1 c14_2z c14_2 c14_3z c14_3 c14_4z c14_4
def impl_BuildQc.f : Nat → Int → Int → Int → Int → Int → Bool → (List T) → Int → Int → Bool → (List Int) → Bool → (List Int) → Option (Int × Int × Bool × (List Int) × Bool × (List Int) × Bool × (List T) × Bool)
  | 0, _, _, _, _, _, _, _, _, _, _, _, _, _ => none
  | k + 1, a0_0, a0_1, a0_2, a0_3, a0_4, a1_0z, a1_0, a2, a3, a4z, a4, a5z, a5 => impl_BuildQc.b some (impl_BuildQc.l0 k) k a0_0 a0_1 a0_2 a0_3 a0_4 a1_0z a1_0 a2 a3 a4z a4 a5z a5
def impl_BuildQc.enc (r : Int × Int × Bool × (List Int) × Bool × (List Int) × Bool × (List T) × Bool) : Res := ⟨[.vals true [((.int .i64 r.1), true), ((.int .i64 r.2.1), true), ((.nums 5 .u8 r.2.2.1 r.2.2.2.1), true), ((.nums 5 .u8 r.2.2.2.2.1 r.2.2.2.2.2.1), true), ((.sl 22 r.2.2.2.2.2.2.1 r.2.2.2.2.2.2.2.1), true)], .vals false [((.bool r.2.2.2.2.2.2.2.2), true)]], []⟩
def impl_BuildQc.ans (k : Nat) : List Arg → Ans
  | [.v (.agg [(.int .i64 a0_0), (.int .i64 a0_1), (.int .i64 a0_2), (.int .i64 a0_3), (.int .i64 a0_4)]), .v (.agg [(.sl 44 a1_0z a1_0)]), .v (.int .i64 a2), .v (.int .i64 a3), .v (.nums 5 .u8 a4z a4), .v (.nums 5 .u8 a5z a5)] => ⟨impl_BuildQc.f k a0_0 a0_1 a0_2 a0_3 a0_4 a1_0z a1_0 a2 a3 a4z a4 a5z a5, impl_BuildQc.enc⟩
  | _ => Ans.no
def impl_BuildQc.Cs (k : Nat) : CallSem := tab [(87, impl_belongs.ans k), (88, impl_BitsOk.ans k), (89, impl_BitsList.ans k), (80, impl_copyBytes.ans k), (15, impl_SignVote.ans k), (90, impl_QcOk.ans k)]
def impl_BuildQc.cuts : List (Nat × Keep) := [(122, ⟨[(2, some []), (3, some []), (4, some []), (6, some []), (7, some []), (12, some []), (14, some []), (39, none), (40, some []), (41, some [])], [(6, [some [], some [], some [], some [], some []]), (7, [some []]), (12, [some [], some [], none, none, none]), (14, [some [], some [], none, none, none])]⟩)]
noncomputable def impl_BuildQc.K0 : List Fr := framesAt [true, true, true, false, true, false] (bodyOf Try.f23 impl_BuildQc.cuts) []
def impl_BuildQc.N0 (x2 : Int) (x3 : Int) (x4z : Bool) (x4 : List Int) (x39z : Bool) (x39 : List Int) (x40 : Int) (x41 : Int) (c6_0 : Int) (c6_1 : Int) (c6_2 : Int) (c6_3 : Int) (c6_4 : Int) (c7_0z : Bool) (c7_0 : List T) (c14_0 : Int) (c14_1 : Int) (c14_2z : Bool) (c14_2 : List Int) (c14_3z : Bool) (c14_3 : List Int) (c14_4z : Bool) (c14_4 : List T) : St := stOf 68 68 6 [(2, .val (V.s (.int .i64 x2))), (3, .val (V.s (.int .i64 x3))), (4, .val ⟨(.nums 5 .u8 x4z x4), [], false, none⟩), (6, .bp 6 0), (7, .bp 7 0), (12, .bp 12 0), (14, .bp 14 0), (39, .val ⟨(.nums 3 .i64 x39z x39), [.l 39 0], true, some (.l 39 0)⟩), (40, .val (V.s (.int .i64 x40))), (41, .val (V.s (.int .i64 x41)))] [(6, .cells [V.s (.int .i64 c6_0), V.s (.int .i64 c6_1), V.s (.int .i64 c6_2), V.s (.int .i64 c6_3), V.s (.int .i64 c6_4)]), (7, .cells [⟨(.sl 44 c7_0z c7_0), [], false, none⟩]), (12, .cells [V.s (.int .i64 0), V.s (.int .i64 0), ⟨(.nums 5 .u8 true ([] : List Int)), [.l 12 3], true, some (.l 12 3)⟩, ⟨(.nums 5 .u8 true ([] : List Int)), [.l 12 4], true, some (.l 12 4)⟩, ⟨(.sl 22 true ([] : List T)), [.l 12 5], true, some (.l 12 5)⟩]), (14, .cells [V.s (.int .i64 c14_0), V.s (.int .i64 c14_1), ⟨(.nums 5 .u8 c14_2z c14_2), [.l 14 3], true, some (.l 14 3)⟩, ⟨(.nums 5 .u8 c14_3z c14_3), [.l 14 4], true, some (.l 14 4)⟩, ⟨(.sl 22 c14_4z c14_4), [.l 14 5], true, some (.l 14 5)⟩])]
theorem impl_BuildQc.s (k : Nat) (a0_0 : Int) (a0_1 : Int) (a0_2 : Int) (a0_3 : Int) (a0_4 : Int) (a1_0z : Bool) (a1_0 : List T) (a2 : Int) (a3 : Int) (a4z : Bool) (a4 : List Int) (a5z : Bool) (a5 : List Int) : answer Try.prog impl_BuildQc.Cs 100000 impl_BuildQc.cuts [] Try.f23 (k + 1) [.v (.agg [(.int .i64 a0_0), (.int .i64 a0_1), (.int .i64 a0_2), (.int .i64 a0_3), (.int .i64 a0_4)]), .v (.agg [(.sl 44 a1_0z a1_0)]), .v (.int .i64 a2), .v (.int .i64 a3), .v (.nums 5 .u8 a4z a4), .v (.nums 5 .u8 a5z a5)] = impl_BuildQc.b (fun r => some (impl_BuildQc.enc r)) (fun x2 x3 x4z x4 x39z x39 x40 x41 c6_0 c6_1 c6_2 c6_3 c6_4 c7_0z c7_0 c14_0 c14_1 c14_2z c14_2 c14_3z c14_3 c14_4z c14_4 => rounds Try.prog impl_BuildQc.Cs (finish Try.prog [] Try.f23 [.v (.agg [(.int .i64 a0_0), (.int .i64 a0_1), (.int .i64 a0_2), (.int .i64 a0_3), (.int .i64 a0_4)]), .v (.agg [(.sl 44 a1_0z a1_0)]), .v (.int .i64 a2), .v (.int .i64 a3), .v (.nums 5 .u8 a4z a4), .v (.nums 5 .u8 a5z a5)]) 100000 k impl_BuildQc.K0 (impl_BuildQc.N0 x2 x3 x4z x4 x39z x39 x40 x41 c6_0 c6_1 c6_2 c6_3 c6_4 c7_0z c7_0 c14_0 c14_1 c14_2z c14_2 c14_3z c14_3 c14_4z c14_4)) k a0_0 a0_1 a0_2 a0_3 a0_4 a1_0z a1_0 a2 a3 a4z a4 a5z a5 := by kernel_rfl
theorem impl_BuildQc.s0 (k : Nat) (G : List Fr → St → Option Res) (a0_0 : Int) (a0_1 : Int) (a0_2 : Int) (a0_3 : Int) (a0_4 : Int) (a1_0z : Bool) (a1_0 : List T) (a2 : Int) (a3 : Int) (a4z : Bool) (a4 : List Int) (a5z : Bool) (a5 : List Int) (yx2 : Int) (yx3 : Int) (yx4z : Bool) (yx4 : List Int) (yx39z : Bool) (yx39 : List Int) (yx40 : Int) (yx41 : Int) (yc6_0 : Int) (yc6_1 : Int) (yc6_2 : Int) (yc6_3 : Int) (yc6_4 : Int) (yc7_0z : Bool) (yc7_0 : List T) (yc14_0 : Int) (yc14_1 : Int) (yc14_2z : Bool) (yc14_2 : List Int) (yc14_3z : Bool) (yc14_3 : List Int) (yc14_4z : Bool) (yc14_4 : List T) : resume Try.prog (impl_BuildQc.Cs k) G (finish Try.prog [] Try.f23 [.v (.agg [(.int .i64 a0_0), (.int .i64 a0_1), (.int .i64 a0_2), (.int .i64 a0_3), (.int .i64 a0_4)]), .v (.agg [(.sl 44 a1_0z a1_0)]), .v (.int .i64 a2), .v (.int .i64 a3), .v (.nums 5 .u8 a4z a4), .v (.nums 5 .u8 a5z a5)]) 100000 impl_BuildQc.K0 (impl_BuildQc.N0 yx2 yx3 yx4z yx4 yx39z yx39 yx40 yx41 yc6_0 yc6_1 yc6_2 yc6_3 yc6_4 yc7_0z yc7_0 yc14_0 yc14_1 yc14_2z yc14_2 yc14_3z yc14_3 yc14_4z yc14_4) = impl_BuildQc.l0b (fun r => some (impl_BuildQc.enc r)) (fun x2 x3 x4z x4 x39z x39 x40 x41 c6_0 c6_1 c6_2 c6_3 c6_4 c7_0z c7_0 c14_0 c14_1 c14_2z c14_2 c14_3z c14_3 c14_4z c14_4 => G impl_BuildQc.K0 (impl_BuildQc.N0 x2 x3 x4z x4 x39z x39 x40 x41 c6_0 c6_1 c6_2 c6_3 c6_4 c7_0z c7_0 c14_0 c14_1 c14_2z c14_2 c14_3z c14_3 c14_4z c14_4)) k yx2 yx3 yx4z yx4 yx39z yx39 yx40 yx41 yc6_0 yc6_1 yc6_2 yc6_3 yc6_4 yc7_0z yc7_0 yc14_0 yc14_1 yc14_2z yc14_2 yc14_3z yc14_3 yc14_4z yc14_4 := by kernel_rfl
theorem impl_BuildQc.b_nat {R R' : Type} (e : R → R') (ret : Int × Int × Bool × (List Int) × Bool × (List Int) × Bool × (List T) × Bool → Option R) (j0 : Int → Int → Bool → (List Int) → Bool → (List Int) → Int → Int → Int → Int → Int → Int → Int → Bool → (List T) → Int → Int → Bool → (List Int) → Bool → (List Int) → Bool → (List T) → Option R) (k : Nat) (a0_0 : Int) (a0_1 : Int) (a0_2 : Int) (a0_3 : Int) (a0_4 : Int) (a1_0z : Bool) (a1_0 : List T) (a2 : Int) (a3 : Int) (a4z : Bool) (a4 : List Int) (a5z : Bool) (a5 : List Int) : impl_BuildQc.b (fun r => (ret r).map e) (fun x2 x3 x4z x4 x39z x39 x40 x41 c6_0 c6_1 c6_2 c6_3 c6_4 c7_0z c7_0 c14_0 c14_1 c14_2z c14_2 c14_3z c14_3 c14_4z c14_4 => (j0 x2 x3 x4z x4 x39z x39 x40 x41 c6_0 c6_1 c6_2 c6_3 c6_4 c7_0z c7_0 c14_0 c14_1 c14_2z c14_2 c14_3z c14_3 c14_4z c14_4).map e) k a0_0 a0_1 a0_2 a0_3 a0_4 a1_0z a1_0 a2 a3 a4z a4 a5z a5 = (impl_BuildQc.b ret j0 k a0_0 a0_1 a0_2 a0_3 a0_4 a1_0z a1_0 a2 a3 a4z a4 a5z a5).map e := by
  unfold impl_BuildQc.b
  repeat' first | with_reducible refine nat_cond ?_ ?_ | with_reducible refine nat_bind fun _ => ?_ | rfl
theorem impl_BuildQc.l0b_nat {R R' : Type} (e : R → R') (ret : Int × Int × Bool × (List Int) × Bool × (List Int) × Bool × (List T) × Bool → Option R) (j0 : Int → Int → Bool → (List Int) → Bool → (List Int) → Int → Int → Int → Int → Int → Int → Int → Bool → (List T) → Int → Int → Bool → (List Int) → Bool → (List Int) → Bool → (List T) → Option R) (k : Nat) (x2 : Int) (x3 : Int) (x4z : Bool) (x4 : List Int) (x39z : Bool) (x39 : List Int) (x40 : Int) (x41 : Int) (c6_0 : Int) (c6_1 : Int) (c6_2 : Int) (c6_3 : Int) (c6_4 : Int) (c7_0z : Bool) (c7_0 : List T) (c14_0 : Int) (c14_1 : Int) (c14_2z : Bool) (c14_2 : List Int) (c14_3z : Bool) (c14_3 : List Int) (c14_4z : Bool) (c14_4 : List T) : impl_BuildQc.l0b (fun r => (ret r).map e) (fun x2 x3 x4z x4 x39z x39 x40 x41 c6_0 c6_1 c6_2 c6_3 c6_4 c7_0z c7_0 c14_0 c14_1 c14_2z c14_2 c14_3z c14_3 c14_4z c14_4 => (j0 x2 x3 x4z x4 x39z x39 x40 x41 c6_0 c6_1 c6_2 c6_3 c6_4 c7_0z c7_0 c14_0 c14_1 c14_2z c14_2 c14_3z c14_3 c14_4z c14_4).map e) k x2 x3 x4z x4 x39z x39 x40 x41 c6_0 c6_1 c6_2 c6_3 c6_4 c7_0z c7_0 c14_0 c14_1 c14_2z c14_2 c14_3z c14_3 c14_4z c14_4 = (impl_BuildQc.l0b ret j0 k x2 x3 x4z x4 x39z x39 x40 x41 c6_0 c6_1 c6_2 c6_3 c6_4 c7_0z c7_0 c14_0 c14_1 c14_2z c14_2 c14_3z c14_3 c14_4z c14_4).map e := by
  unfold impl_BuildQc.l0b
  repeat' first | with_reducible refine nat_cond ?_ ?_ | with_reducible refine nat_bind fun _ => ?_ | rfl
theorem impl_BuildQc.rounds_eq (a0_0 : Int) (a0_1 : Int) (a0_2 : Int) (a0_3 : Int) (a0_4 : Int) (a1_0z : Bool) (a1_0 : List T) (a2 : Int) (a3 : Int) (a4z : Bool) (a4 : List Int) (a5z : Bool) (a5 : List Int) : ∀ k, (∀ (x2 : Int) (x3 : Int) (x4z : Bool) (x4 : List Int) (x39z : Bool) (x39 : List Int) (x40 : Int) (x41 : Int) (c6_0 : Int) (c6_1 : Int) (c6_2 : Int) (c6_3 : Int) (c6_4 : Int) (c7_0z : Bool) (c7_0 : List T) (c14_0 : Int) (c14_1 : Int) (c14_2z : Bool) (c14_2 : List Int) (c14_3z : Bool) (c14_3 : List Int) (c14_4z : Bool) (c14_4 : List T), rounds Try.prog impl_BuildQc.Cs (finish Try.prog [] Try.f23 [.v (.agg [(.int .i64 a0_0), (.int .i64 a0_1), (.int .i64 a0_2), (.int .i64 a0_3), (.int .i64 a0_4)]), .v (.agg [(.sl 44 a1_0z a1_0)]), .v (.int .i64 a2), .v (.int .i64 a3), .v (.nums 5 .u8 a4z a4), .v (.nums 5 .u8 a5z a5)]) 100000 k impl_BuildQc.K0 (impl_BuildQc.N0 x2 x3 x4z x4 x39z x39 x40 x41 c6_0 c6_1 c6_2 c6_3 c6_4 c7_0z c7_0 c14_0 c14_1 c14_2z c14_2 c14_3z c14_3 c14_4z c14_4) = (impl_BuildQc.l0 k x2 x3 x4z x4 x39z x39 x40 x41 c6_0 c6_1 c6_2 c6_3 c6_4 c7_0z c7_0 c14_0 c14_1 c14_2z c14_2 c14_3z c14_3 c14_4z c14_4).map impl_BuildQc.enc)
  | 0 => fun _ _ _ _ _ _ _ _ _ _ _ _ _ _ _ _ _ _ _ _ _ _ _ => rfl
  | k + 1 => by
    have ih := impl_BuildQc.rounds_eq a0_0 a0_1 a0_2 a0_3 a0_4 a1_0z a1_0 a2 a3 a4z a4 a5z a5 k
    refine fun _ _ _ _ _ _ _ _ _ _ _ _ _ _ _ _ _ _ _ _ _ _ _ => ?_
    · refine (impl_BuildQc.s0 k _ a0_0 a0_1 a0_2 a0_3 a0_4 a1_0z a1_0 a2 a3 a4z a4 a5z a5 _ _ _ _ _ _ _ _ _ _ _ _ _ _ _ _ _ _ _ _ _ _ _).trans (Eq.trans ?_ (impl_BuildQc.l0b_nat impl_BuildQc.enc some (impl_BuildQc.l0 k) k _ _ _ _ _ _ _ _ _ _ _ _ _ _ _ _ _ _ _ _ _ _ _))
      simp only [ih, Option.map_some]
theorem impl_BuildQc.eq (k : Nat) (a0_0 : Int) (a0_1 : Int) (a0_2 : Int) (a0_3 : Int) (a0_4 : Int) (a1_0z : Bool) (a1_0 : List T) (a2 : Int) (a3 : Int) (a4z : Bool) (a4 : List Int) (a5z : Bool) (a5 : List Int) : answer Try.prog impl_BuildQc.Cs 100000 impl_BuildQc.cuts [] Try.f23 (k + 1) [.v (.agg [(.int .i64 a0_0), (.int .i64 a0_1), (.int .i64 a0_2), (.int .i64 a0_3), (.int .i64 a0_4)]), .v (.agg [(.sl 44 a1_0z a1_0)]), .v (.int .i64 a2), .v (.int .i64 a3), .v (.nums 5 .u8 a4z a4), .v (.nums 5 .u8 a5z a5)] = (impl_BuildQc.f (k + 1) a0_0 a0_1 a0_2 a0_3 a0_4 a1_0z a1_0 a2 a3 a4z a4 a5z a5).map impl_BuildQc.enc := by
  have ih := impl_BuildQc.rounds_eq a0_0 a0_1 a0_2 a0_3 a0_4 a1_0z a1_0 a2 a3 a4z a4 a5z a5 k
  refine (impl_BuildQc.s k a0_0 a0_1 a0_2 a0_3 a0_4 a1_0z a1_0 a2 a3 a4z a4 a5z a5).trans (Eq.trans ?_ (impl_BuildQc.b_nat impl_BuildQc.enc some (impl_BuildQc.l0 k) k a0_0 a0_1 a0_2 a0_3 a0_4 a1_0z a1_0 a2 a3 a4z a4 a5z a5))
  simp only [ih, Option.map_some]
theorem impl_BuildQc.sound (k : Nat) : SoundF Try.prog 23 (fun a => (impl_BuildQc.ans k a).val) := by
  refine sound_plain (fun args res h => ?_) (fun t n => rfl)
  unfold impl_BuildQc.ans at h
  dsimp only at h
  split at h
  · cases k with
    | zero => cases h
    | succ k =>
      unfold Ans.val at h
      rw [← impl_BuildQc.eq] at h
      exact answer_sound mixed Try.func23 _ _ _ (k + 1) (fun j _ => tab_sound (tab_cons (impl_belongs.sound j) (tab_cons (impl_BitsOk.sound j) (tab_cons (impl_BitsList.sound j) (tab_cons (impl_copyBytes.sound j) (tab_cons (impl_SignVote.sound j) (tab_cons (impl_QcOk.sound j) (tab_nil)))))))) _ _ h
  · exact (Ans.no_val h).elim

/-! loop.example/g00790/impl.SameBytes -/
def impl_SameBytes.b {R : Type} (ret : Bool → Option R) (k : Nat) (a0z : Bool) (a0 : List Int) (a1z : Bool) (a1 : List Int) : Option R :=
  ret (decide ((strOf a0) = (strOf a1)))
def impl_SameBytes.f : Nat → Bool → (List Int) → Bool → (List Int) → Option Bool
  | 0, _, _, _, _ => none
  | k + 1, a0z, a0, a1z, a1 => impl_SameBytes.b some k a0z a0 a1z a1
def impl_SameBytes.enc (r : Bool) : Res := ⟨[.vals false [((.bool r), true)]], []⟩
def impl_SameBytes.ans (k : Nat) : List Arg → Ans
  | [.v (.nums 5 .u8 a0z a0), .v (.nums 5 .u8 a1z a1)] => ⟨impl_SameBytes.f k a0z a0 a1z a1, impl_SameBytes.enc⟩
  | _ => Ans.no
def impl_SameBytes.Cs (k : Nat) : CallSem := tab []
def impl_SameBytes.cuts : List (Nat × Keep) := []
theorem impl_SameBytes.s (k : Nat) (a0z : Bool) (a0 : List Int) (a1z : Bool) (a1 : List Int) : answer Try.prog impl_SameBytes.Cs 100000 impl_SameBytes.cuts [] Try.f32 (k + 1) [.v (.nums 5 .u8 a0z a0), .v (.nums 5 .u8 a1z a1)] = impl_SameBytes.b (fun r => some (impl_SameBytes.enc r)) k a0z a0 a1z a1 := by kernel_rfl
theorem impl_SameBytes.b_nat {R R' : Type} (e : R → R') (ret : Bool → Option R) (k : Nat) (a0z : Bool) (a0 : List Int) (a1z : Bool) (a1 : List Int) : impl_SameBytes.b (fun r => (ret r).map e) k a0z a0 a1z a1 = (impl_SameBytes.b ret k a0z a0 a1z a1).map e := by
  unfold impl_SameBytes.b
  repeat' first | with_reducible refine nat_cond ?_ ?_ | with_reducible refine nat_bind fun _ => ?_ | rfl
theorem impl_SameBytes.eq (k : Nat) (a0z : Bool) (a0 : List Int) (a1z : Bool) (a1 : List Int) : answer Try.prog impl_SameBytes.Cs 100000 impl_SameBytes.cuts [] Try.f32 (k + 1) [.v (.nums 5 .u8 a0z a0), .v (.nums 5 .u8 a1z a1)] = (impl_SameBytes.f (k + 1) a0z a0 a1z a1).map impl_SameBytes.enc := by
  refine (impl_SameBytes.s k a0z a0 a1z a1).trans (Eq.trans ?_ (impl_SameBytes.b_nat impl_SameBytes.enc some k a0z a0 a1z a1))
  simp only [Option.map_some]
theorem impl_SameBytes.sound (k : Nat) : SoundF Try.prog 32 (fun a => (impl_SameBytes.ans k a).val) := by
  refine sound_plain (fun args res h => ?_) (fun t n => rfl)
  unfold impl_SameBytes.ans at h
  dsimp only at h
  split at h
  · cases k with
    | zero => cases h
    | succ k =>
      unfold Ans.val at h
      rw [← impl_SameBytes.eq] at h
      exact answer_sound mixed Try.func32 _ _ _ (k + 1) (fun j _ => tab_sound (tab_nil)) _ _ h
  · exact (Ans.no_val h).elim

/-! loop.example/g00790/impl.QcVotes -/
def impl_QcVotes.b {R : Type} (ret : Bool × List T → Option R) (j0 : (List T) → Bool → (List Int) → Int → Int → Int → Int → Bool → (List Int) → Bool → (List Int) → Bool → (List T) → Option R) (k : Nat) (a0_0 : Int) (a0_1 : Int) (a0_2z : Bool) (a0_2 : List Int) (a0_3z : Bool) (a0_3 : List Int) (a0_4z : Bool) (a0_4 : List T) : Option R :=
  (impl_BitsCount.f k a0_3z a0_3).bind fun t0 => cond (!(decide (((a0_4).length : Int) = t0))) (ret (true, ([] : List T))) ((impl_BitsList.f k a0_3z a0_3).bind fun t1 => j0 ([] : List T) t1.1 t1.2 ((t1.2).length : Int) 0 a0_0 a0_1 a0_2z a0_2 a0_3z a0_3 a0_4z a0_4)
def impl_QcVotes.l0b {R : Type} (ret : Bool × List T → Option R) (j0 : (List T) → Bool → (List Int) → Int → Int → Int → Int → Bool → (List Int) → Bool → (List Int) → Bool → (List T) → Option R) (k : Nat) (x3 : List T) (x16z : Bool) (x16 : List Int) (x17 : Int) (x18 : Int) (c1_0 : Int) (c1_1 : Int) (c1_2z : Bool) (c1_2 : List Int) (c1_3z : Bool) (c1_3 : List Int) (c1_4z : Bool) (c1_4 : List T) : Option R :=
  cond (decide (x18 < x17)) (cond (decide ((0 : Int) ≤ x18)) (cond (decide (x18 < ((x16).length : Int))) ((impl_copyBytes.f k c1_2z c1_2).bind fun t0 => cond (decide ((0 : Int) ≤ x18)) (cond (decide (x18 < ((c1_4).length : Int))) ((impl_copyBytes.f k (((((c1_4).getD (x18).toNat .bad).cells.getD 0 .bad)).isNil) (((((c1_4).getD (x18).toNat .bad).cells.getD 0 .bad)).toNums)).bind fun t1 => cond (decide ((x3).length + 1 < 1954687338268)) (j0 (x3 ++ ([(.agg [(.int .i64 c1_0), (.int .i64 c1_1), (.nums 5 .u8 t0.1 t0.2), (.int .i64 (rdI x16 x18)), (.nums 5 .u8 t1.1 t1.2)])] : List T)) x16z x16 x17 (RowKit.wrap64 (x18 + 1)) c1_0 c1_1 c1_2z c1_2 c1_3z c1_3 c1_4z c1_4) (none)) (none)) (none)) (none)) (none)) (ret (false, x3))
def impl_QcVotes.l0 : Nat → (List T) → Bool → (List Int) → Int → Int → Int → Int → Bool → (List Int) → Bool → (List Int) → Bool → (List T) → Option (Bool × List T)
  | 0, _, _, _, _, _, _, _, _, _, _, _, _, _ => none
  | k + 1, x3, x16z, x16, x17, x18, c1_0, c1_1, c1_2z, c1_2, c1_3z, c1_3, c1_4z, c1_4 => impl_QcVotes.l0b some (impl_QcVotes.l0 k) k x3 x16z x16 x17 x18 c1_0 c1_1 c1_2z c1_2 c1_3z c1_3 c1_4z c1_4
def impl_QcVotes.f : Nat → Int → Int → Bool → (List Int) → Bool → (List Int) → Bool → (List T) → Option (Bool × List T)
  | 0, _, _, _, _, _, _, _, _ => none
  | k + 1, a0_0, a0_1, a0_2z, a0_2, a0_3z, a0_3, a0_4z, a0_4 => impl_QcVotes.b some (impl_QcVotes.l0 k) k a0_0 a0_1 a0_2z a0_2 a0_3z a0_3 a0_4z a0_4
def impl_QcVotes.enc (r : Bool × List T) : Res := ⟨[.vals false [((.sl 33 r.1 r.2), true)]], []⟩
def impl_QcVotes.ans (k : Nat) : List Arg → Ans
  | [.v (.agg [(.int .i64 a0_0), (.int .i64 a0_1), (.nums 5 .u8 a0_2z a0_2), (.nums 5 .u8 a0_3z a0_3), (.sl 22 a0_4z a0_4)])] => ⟨impl_QcVotes.f k a0_0 a0_1 a0_2z a0_2 a0_3z a0_3 a0_4z a0_4, impl_QcVotes.enc⟩
  | _ => Ans.no
def impl_QcVotes.Cs (k : Nat) : CallSem := tab [(89, impl_BitsList.ans k), (80, impl_copyBytes.ans k), (25, impl_BitsCount.ans k)]
def impl_QcVotes.cuts : List (Nat × Keep) := [(122, ⟨[(1, some []), (3, none), (16, none), (17, some []), (18, some [])], [(1, [some [], some [], some [], some [], some []])]⟩)]
noncomputable def impl_QcVotes.K0 : List Fr := framesAt [true, true, true, false, true, false] (bodyOf Try.f24 impl_QcVotes.cuts) []
def impl_QcVotes.N0 (x3 : List T) (x16z : Bool) (x16 : List Int) (x17 : Int) (x18 : Int) (c1_0 : Int) (c1_1 : Int) (c1_2z : Bool) (c1_2 : List Int) (c1_3z : Bool) (c1_3 : List Int) (c1_4z : Bool) (c1_4 : List T) : St := stOf 43 43 1 [(1, .bp 1 0), (3, .val ⟨(.sl 33 false x3), [.l 3 0], true, some (.l 3 0)⟩), (16, .val ⟨(.nums 3 .i64 x16z x16), [.l 16 0], true, some (.l 16 0)⟩), (17, .val (V.s (.int .i64 x17))), (18, .val (V.s (.int .i64 x18)))] [(1, .cells [V.s (.int .i64 c1_0), V.s (.int .i64 c1_1), ⟨(.nums 5 .u8 c1_2z c1_2), [], false, none⟩, ⟨(.nums 5 .u8 c1_3z c1_3), [], false, none⟩, ⟨(.sl 22 c1_4z c1_4), [], false, none⟩])]
theorem impl_QcVotes.s (k : Nat) (a0_0 : Int) (a0_1 : Int) (a0_2z : Bool) (a0_2 : List Int) (a0_3z : Bool) (a0_3 : List Int) (a0_4z : Bool) (a0_4 : List T) : answer Try.prog impl_QcVotes.Cs 100000 impl_QcVotes.cuts [] Try.f24 (k + 1) [.v (.agg [(.int .i64 a0_0), (.int .i64 a0_1), (.nums 5 .u8 a0_2z a0_2), (.nums 5 .u8 a0_3z a0_3), (.sl 22 a0_4z a0_4)])] = impl_QcVotes.b (fun r => some (impl_QcVotes.enc r)) (fun x3 x16z x16 x17 x18 c1_0 c1_1 c1_2z c1_2 c1_3z c1_3 c1_4z c1_4 => rounds Try.prog impl_QcVotes.Cs (finish Try.prog [] Try.f24 [.v (.agg [(.int .i64 a0_0), (.int .i64 a0_1), (.nums 5 .u8 a0_2z a0_2), (.nums 5 .u8 a0_3z a0_3), (.sl 22 a0_4z a0_4)])]) 100000 k impl_QcVotes.K0 (impl_QcVotes.N0 x3 x16z x16 x17 x18 c1_0 c1_1 c1_2z c1_2 c1_3z c1_3 c1_4z c1_4)) k a0_0 a0_1 a0_2z a0_2 a0_3z a0_3 a0_4z a0_4 := by kernel_rfl
theorem impl_QcVotes.s0 (k : Nat) (G : List Fr → St → Option Res) (a0_0 : Int) (a0_1 : Int) (a0_2z : Bool) (a0_2 : List Int) (a0_3z : Bool) (a0_3 : List Int) (a0_4z : Bool) (a0_4 : List T) (yx3 : List T) (yx16z : Bool) (yx16 : List Int) (yx17 : Int) (yx18 : Int) (yc1_0 : Int) (yc1_1 : Int) (yc1_2z : Bool) (yc1_2 : List Int) (yc1_3z : Bool) (yc1_3 : List Int) (yc1_4z : Bool) (yc1_4 : List T) : resume Try.prog (impl_QcVotes.Cs k) G (finish Try.prog [] Try.f24 [.v (.agg [(.int .i64 a0_0), (.int .i64 a0_1), (.nums 5 .u8 a0_2z a0_2), (.nums 5 .u8 a0_3z a0_3), (.sl 22 a0_4z a0_4)])]) 100000 impl_QcVotes.K0 (impl_QcVotes.N0 yx3 yx16z yx16 yx17 yx18 yc1_0 yc1_1 yc1_2z yc1_2 yc1_3z yc1_3 yc1_4z yc1_4) = impl_QcVotes.l0b (fun r => some (impl_QcVotes.enc r)) (fun x3 x16z x16 x17 x18 c1_0 c1_1 c1_2z c1_2 c1_3z c1_3 c1_4z c1_4 => G impl_QcVotes.K0 (impl_QcVotes.N0 x3 x16z x16 x17 x18 c1_0 c1_1 c1_2z c1_2 c1_3z c1_3 c1_4z c1_4)) k yx3 yx16z yx16 yx17 yx18 yc1_0 yc1_1 yc1_2z yc1_2 yc1_3z yc1_3 yc1_4z yc1_4 := by kernel_rfl
theorem impl_QcVotes.b_nat {R R' : Type} (e : R → R') (ret : Bool × List T → Option R) (j0 : (List T) → Bool → (List Int) → Int → Int → Int → Int → Bool → (List Int) → Bool → (List Int) → Bool → (List T) → Option R) (k : Nat) (a0_0 : Int) (a0_1 : Int) (a0_2z : Bool) (a0_2 : List Int) (a0_3z : Bool) (a0_3 : List Int) (a0_4z : Bool) (a0_4 : List T) : impl_QcVotes.b (fun r => (ret r).map e) (fun x3 x16z x16 x17 x18 c1_0 c1_1 c1_2z c1_2 c1_3z c1_3 c1_4z c1_4 => (j0 x3 x16z x16 x17 x18 c1_0 c1_1 c1_2z c1_2 c1_3z c1_3 c1_4z c1_4).map e) k a0_0 a0_1 a0_2z a0_2 a0_3z a0_3 a0_4z a0_4 = (impl_QcVotes.b ret j0 k a0_0 a0_1 a0_2z a0_2 a0_3z a0_3 a0_4z a0_4).map e := by
  unfold impl_QcVotes.b
  repeat' first | with_reducible refine nat_cond ?_ ?_ | with_reducible refine nat_bind fun _ => ?_ | rfl
theorem impl_QcVotes.l0b_nat {R R' : Type} (e : R → R') (ret : Bool × List T → Option R) (j0 : (List T) → Bool → (List Int) → Int → Int → Int → Int → Bool → (List Int) → Bool → (List Int) → Bool → (List T) → Option R) (k : Nat) (x3 : List T) (x16z : Bool) (x16 : List Int) (x17 : Int) (x18 : Int) (c1_0 : Int) (c1_1 : Int) (c1_2z : Bool) (c1_2 : List Int) (c1_3z : Bool) (c1_3 : List Int) (c1_4z : Bool) (c1_4 : List T) : impl_QcVotes.l0b (fun r => (ret r).map e) (fun x3 x16z x16 x17 x18 c1_0 c1_1 c1_2z c1_2 c1_3z c1_3 c1_4z c1_4 => (j0 x3 x16z x16 x17 x18 c1_0 c1_1 c1_2z c1_2 c1_3z c1_3 c1_4z c1_4).map e) k x3 x16z x16 x17 x18 c1_0 c1_1 c1_2z c1_2 c1_3z c1_3 c1_4z c1_4 = (impl_QcVotes.l0b ret j0 k x3 x16z x16 x17 x18 c1_0 c1_1 c1_2z c1_2 c1_3z c1_3 c1_4z c1_4).map e := by
  unfold impl_QcVotes.l0b
  repeat' first | with_reducible refine nat_cond ?_ ?_ | with_reducible refine nat_bind fun _ => ?_ | rfl
theorem impl_QcVotes.rounds_eq (a0_0 : Int) (a0_1 : Int) (a0_2z : Bool) (a0_2 : List Int) (a0_3z : Bool) (a0_3 : List Int) (a0_4z : Bool) (a0_4 : List T) : ∀ k, (∀ (x3 : List T) (x16z : Bool) (x16 : List Int) (x17 : Int) (x18 : Int) (c1_0 : Int) (c1_1 : Int) (c1_2z : Bool) (c1_2 : List Int) (c1_3z : Bool) (c1_3 : List Int) (c1_4z : Bool) (c1_4 : List T), rounds Try.prog impl_QcVotes.Cs (finish Try.prog [] Try.f24 [.v (.agg [(.int .i64 a0_0), (.int .i64 a0_1), (.nums 5 .u8 a0_2z a0_2), (.nums 5 .u8 a0_3z a0_3), (.sl 22 a0_4z a0_4)])]) 100000 k impl_QcVotes.K0 (impl_QcVotes.N0 x3 x16z x16 x17 x18 c1_0 c1_1 c1_2z c1_2 c1_3z c1_3 c1_4z c1_4) = (impl_QcVotes.l0 k x3 x16z x16 x17 x18 c1_0 c1_1 c1_2z c1_2 c1_3z c1_3 c1_4z c1_4).map impl_QcVotes.enc)
  | 0 => fun _ _ _ _ _ _ _ _ _ _ _ _ _ => rfl
  | k + 1 => by
    have ih := impl_QcVotes.rounds_eq a0_0 a0_1 a0_2z a0_2 a0_3z a0_3 a0_4z a0_4 k
    refine fun _ _ _ _ _ _ _ _ _ _ _ _ _ => ?_
    · refine (impl_QcVotes.s0 k _ a0_0 a0_1 a0_2z a0_2 a0_3z a0_3 a0_4z a0_4 _ _ _ _ _ _ _ _ _ _ _ _ _).trans (Eq.trans ?_ (impl_QcVotes.l0b_nat impl_QcVotes.enc some (impl_QcVotes.l0 k) k _ _ _ _ _ _ _ _ _ _ _ _ _))
      simp only [ih, Option.map_some]
theorem impl_QcVotes.eq (k : Nat) (a0_0 : Int) (a0_1 : Int) (a0_2z : Bool) (a0_2 : List Int) (a0_3z : Bool) (a0_3 : List Int) (a0_4z : Bool) (a0_4 : List T) : answer Try.prog impl_QcVotes.Cs 100000 impl_QcVotes.cuts [] Try.f24 (k + 1) [.v (.agg [(.int .i64 a0_0), (.int .i64 a0_1), (.nums 5 .u8 a0_2z a0_2), (.nums 5 .u8 a0_3z a0_3), (.sl 22 a0_4z a0_4)])] = (impl_QcVotes.f (k + 1) a0_0 a0_1 a0_2z a0_2 a0_3z a0_3 a0_4z a0_4).map impl_QcVotes.enc := by
  have ih := impl_QcVotes.rounds_eq a0_0 a0_1 a0_2z a0_2 a0_3z a0_3 a0_4z a0_4 k
  refine (impl_QcVotes.s k a0_0 a0_1 a0_2z a0_2 a0_3z a0_3 a0_4z a0_4).trans (Eq.trans ?_ (impl_QcVotes.b_nat impl_QcVotes.enc some (impl_QcVotes.l0 k) k a0_0 a0_1 a0_2z a0_2 a0_3z a0_3 a0_4z a0_4))
  simp only [ih, Option.map_some]
theorem impl_QcVotes.sound (k : Nat) : SoundF Try.prog 24 (fun a => (impl_QcVotes.ans k a).val) := by
  refine sound_plain (fun args res h => ?_) (fun t n => rfl)
  unfold impl_QcVotes.ans at h
  dsimp only at h
  split at h
  · cases k with
    | zero => cases h
    | succ k =>
      unfold Ans.val at h
      rw [← impl_QcVotes.eq] at h
      exact answer_sound mixed Try.func24 _ _ _ (k + 1) (fun j _ => tab_sound (tab_cons (impl_BitsList.sound j) (tab_cons (impl_copyBytes.sound j) (tab_cons (impl_BitsCount.sound j) (tab_nil))))) _ _ h
  · exact (Ans.no_val h).elim

/-! loop.example/g00790/impl.Blame$1 -/
def impl_Blame_1.b {R : Type} (ret : Bool → Option R) (k : Nat) (a0_0 : Int) (a0_1 : Int) (a0_2z : Bool) (a0_2 : List Int) (a0_3 : Int) (a0_4z : Bool) (a0_4 : List Int) : Option R :=
  ret true
def impl_Blame_1.f : Nat → Int → Int → Bool → (List Int) → Int → Bool → (List Int) → Option Bool
  | 0, _, _, _, _, _, _, _ => none
  | k + 1, a0_0, a0_1, a0_2z, a0_2, a0_3, a0_4z, a0_4 => impl_Blame_1.b some k a0_0 a0_1 a0_2z a0_2 a0_3 a0_4z a0_4
def impl_Blame_1.enc (r : Bool) : Res := ⟨[.vals false [((.bool r), true)]], []⟩
def impl_Blame_1.ans (k : Nat) : List Arg → Ans
  | [.v (.agg [(.int .i64 a0_0), (.int .i64 a0_1), (.nums 5 .u8 a0_2z a0_2), (.int .i64 a0_3), (.nums 5 .u8 a0_4z a0_4)])] => ⟨impl_Blame_1.f k a0_0 a0_1 a0_2z a0_2 a0_3 a0_4z a0_4, impl_Blame_1.enc⟩
  | _ => Ans.no
def impl_Blame_1.Cs (k : Nat) : CallSem := tab []
def impl_Blame_1.cuts : List (Nat × Keep) := []
theorem impl_Blame_1.s (k : Nat) (a0_0 : Int) (a0_1 : Int) (a0_2z : Bool) (a0_2 : List Int) (a0_3 : Int) (a0_4z : Bool) (a0_4 : List Int) : answer Try.prog impl_Blame_1.Cs 100000 impl_Blame_1.cuts [] Try.f118 (k + 1) [.v (.agg [(.int .i64 a0_0), (.int .i64 a0_1), (.nums 5 .u8 a0_2z a0_2), (.int .i64 a0_3), (.nums 5 .u8 a0_4z a0_4)])] = impl_Blame_1.b (fun r => some (impl_Blame_1.enc r)) k a0_0 a0_1 a0_2z a0_2 a0_3 a0_4z a0_4 := by kernel_rfl
theorem impl_Blame_1.b_nat {R R' : Type} (e : R → R') (ret : Bool → Option R) (k : Nat) (a0_0 : Int) (a0_1 : Int) (a0_2z : Bool) (a0_2 : List Int) (a0_3 : Int) (a0_4z : Bool) (a0_4 : List Int) : impl_Blame_1.b (fun r => (ret r).map e) k a0_0 a0_1 a0_2z a0_2 a0_3 a0_4z a0_4 = (impl_Blame_1.b ret k a0_0 a0_1 a0_2z a0_2 a0_3 a0_4z a0_4).map e := by
  unfold impl_Blame_1.b
  repeat' first | with_reducible refine nat_cond ?_ ?_ | with_reducible refine nat_bind fun _ => ?_ | rfl
theorem impl_Blame_1.eq (k : Nat) (a0_0 : Int) (a0_1 : Int) (a0_2z : Bool) (a0_2 : List Int) (a0_3 : Int) (a0_4z : Bool) (a0_4 : List Int) : answer Try.prog impl_Blame_1.Cs 100000 impl_Blame_1.cuts [] Try.f118 (k + 1) [.v (.agg [(.int .i64 a0_0), (.int .i64 a0_1), (.nums 5 .u8 a0_2z a0_2), (.int .i64 a0_3), (.nums 5 .u8 a0_4z a0_4)])] = (impl_Blame_1.f (k + 1) a0_0 a0_1 a0_2z a0_2 a0_3 a0_4z a0_4).map impl_Blame_1.enc := by
  refine (impl_Blame_1.s k a0_0 a0_1 a0_2z a0_2 a0_3 a0_4z a0_4).trans (Eq.trans ?_ (impl_Blame_1.b_nat impl_Blame_1.enc some k a0_0 a0_1 a0_2z a0_2 a0_3 a0_4z a0_4))
  simp only [Option.map_some]
theorem impl_Blame_1.sound (k : Nat) : SoundF Try.prog 118 (fun a => (impl_Blame_1.ans k a).val) := by
  refine sound_plain (fun args res h => ?_) (fun t n => rfl)
  unfold impl_Blame_1.ans at h
  dsimp only at h
  split at h
  · cases k with
    | zero => cases h
    | succ k =>
      unfold Ans.val at h
      rw [← impl_Blame_1.eq] at h
      exact answer_sound mixed Try.func118 _ _ _ (k + 1) (fun j _ => tab_sound (tab_nil)) _ _ h
  · exact (Ans.no_val h).elim

/-! loop.example/g00790/impl.VoteSame -/
def impl_VoteSame.b {R : Type} (ret : Bool → Option R) (k : Nat) (a0_0 : Int) (a0_1 : Int) (a0_2z : Bool) (a0_2 : List Int) (a0_3 : Int) (a0_4z : Bool) (a0_4 : List Int) (a1_0 : Int) (a1_1 : Int) (a1_2z : Bool) (a1_2 : List Int) (a1_3 : Int) (a1_4z : Bool) (a1_4 : List Int) : Option R :=
  cond (decide (a0_0 = a1_0)) (cond (decide (a0_1 = a1_1)) (cond (decide (a0_3 = a1_3)) ((impl_SameBytes.f k a0_2z a0_2 a1_2z a1_2).bind fun t0 => cond t0 ((impl_SameBytes.f k a0_4z a0_4 a1_4z a1_4).bind fun t1 => ret t1) (ret false)) (ret false)) (ret false)) (ret false)
def impl_VoteSame.f : Nat → Int → Int → Bool → (List Int) → Int → Bool → (List Int) → Int → Int → Bool → (List Int) → Int → Bool → (List Int) → Option Bool
  | 0, _, _, _, _, _, _, _, _, _, _, _, _, _, _ => none
  | k + 1, a0_0, a0_1, a0_2z, a0_2, a0_3, a0_4z, a0_4, a1_0, a1_1, a1_2z, a1_2, a1_3, a1_4z, a1_4 => impl_VoteSame.b some k a0_0 a0_1 a0_2z a0_2 a0_3 a0_4z a0_4 a1_0 a1_1 a1_2z a1_2 a1_3 a1_4z a1_4
def impl_VoteSame.enc (r : Bool) : Res := ⟨[.vals false [((.bool r), true)]], []⟩
def impl_VoteSame.ans (k : Nat) : List Arg → Ans
  | [.v (.agg [(.int .i64 a0_0), (.int .i64 a0_1), (.nums 5 .u8 a0_2z a0_2), (.int .i64 a0_3), (.nums 5 .u8 a0_4z a0_4)]), .v (.agg [(.int .i64 a1_0), (.int .i64 a1_1), (.nums 5 .u8 a1_2z a1_2), (.int .i64 a1_3), (.nums 5 .u8 a1_4z a1_4)])] => ⟨impl_VoteSame.f k a0_0 a0_1 a0_2z a0_2 a0_3 a0_4z a0_4 a1_0 a1_1 a1_2z a1_2 a1_3 a1_4z a1_4, impl_VoteSame.enc⟩
  | _ => Ans.no
def impl_VoteSame.Cs (k : Nat) : CallSem := tab [(32, impl_SameBytes.ans k)]
def impl_VoteSame.cuts : List (Nat × Keep) := []
theorem impl_VoteSame.s (k : Nat) (a0_0 : Int) (a0_1 : Int) (a0_2z : Bool) (a0_2 : List Int) (a0_3 : Int) (a0_4z : Bool) (a0_4 : List Int) (a1_0 : Int) (a1_1 : Int) (a1_2z : Bool) (a1_2 : List Int) (a1_3 : Int) (a1_4z : Bool) (a1_4 : List Int) : answer Try.prog impl_VoteSame.Cs 100000 impl_VoteSame.cuts [] Try.f82 (k + 1) [.v (.agg [(.int .i64 a0_0), (.int .i64 a0_1), (.nums 5 .u8 a0_2z a0_2), (.int .i64 a0_3), (.nums 5 .u8 a0_4z a0_4)]), .v (.agg [(.int .i64 a1_0), (.int .i64 a1_1), (.nums 5 .u8 a1_2z a1_2), (.int .i64 a1_3), (.nums 5 .u8 a1_4z a1_4)])] = impl_VoteSame.b (fun r => some (impl_VoteSame.enc r)) k a0_0 a0_1 a0_2z a0_2 a0_3 a0_4z a0_4 a1_0 a1_1 a1_2z a1_2 a1_3 a1_4z a1_4 := by kernel_rfl
theorem impl_VoteSame.b_nat {R R' : Type} (e : R → R') (ret : Bool → Option R) (k : Nat) (a0_0 : Int) (a0_1 : Int) (a0_2z : Bool) (a0_2 : List Int) (a0_3 : Int) (a0_4z : Bool) (a0_4 : List Int) (a1_0 : Int) (a1_1 : Int) (a1_2z : Bool) (a1_2 : List Int) (a1_3 : Int) (a1_4z : Bool) (a1_4 : List Int) : impl_VoteSame.b (fun r => (ret r).map e) k a0_0 a0_1 a0_2z a0_2 a0_3 a0_4z a0_4 a1_0 a1_1 a1_2z a1_2 a1_3 a1_4z a1_4 = (impl_VoteSame.b ret k a0_0 a0_1 a0_2z a0_2 a0_3 a0_4z a0_4 a1_0 a1_1 a1_2z a1_2 a1_3 a1_4z a1_4).map e := by
  unfold impl_VoteSame.b
  repeat' first | with_reducible refine nat_cond ?_ ?_ | with_reducible refine nat_bind fun _ => ?_ | rfl
theorem impl_VoteSame.eq (k : Nat) (a0_0 : Int) (a0_1 : Int) (a0_2z : Bool) (a0_2 : List Int) (a0_3 : Int) (a0_4z : Bool) (a0_4 : List Int) (a1_0 : Int) (a1_1 : Int) (a1_2z : Bool) (a1_2 : List Int) (a1_3 : Int) (a1_4z : Bool) (a1_4 : List Int) : answer Try.prog impl_VoteSame.Cs 100000 impl_VoteSame.cuts [] Try.f82 (k + 1) [.v (.agg [(.int .i64 a0_0), (.int .i64 a0_1), (.nums 5 .u8 a0_2z a0_2), (.int .i64 a0_3), (.nums 5 .u8 a0_4z a0_4)]), .v (.agg [(.int .i64 a1_0), (.int .i64 a1_1), (.nums 5 .u8 a1_2z a1_2), (.int .i64 a1_3), (.nums 5 .u8 a1_4z a1_4)])] = (impl_VoteSame.f (k + 1) a0_0 a0_1 a0_2z a0_2 a0_3 a0_4z a0_4 a1_0 a1_1 a1_2z a1_2 a1_3 a1_4z a1_4).map impl_VoteSame.enc := by
  refine (impl_VoteSame.s k a0_0 a0_1 a0_2z a0_2 a0_3 a0_4z a0_4 a1_0 a1_1 a1_2z a1_2 a1_3 a1_4z a1_4).trans (Eq.trans ?_ (impl_VoteSame.b_nat impl_VoteSame.enc some k a0_0 a0_1 a0_2z a0_2 a0_3 a0_4z a0_4 a1_0 a1_1 a1_2z a1_2 a1_3 a1_4z a1_4))
  simp only [Option.map_some]
theorem impl_VoteSame.sound (k : Nat) : SoundF Try.prog 82 (fun a => (impl_VoteSame.ans k a).val) := by
  refine sound_plain (fun args res h => ?_) (fun t n => rfl)
  unfold impl_VoteSame.ans at h
  dsimp only at h
  split at h
  · cases k with
    | zero => cases h
    | succ k =>
      unfold Ans.val at h
      rw [← impl_VoteSame.eq] at h
      exact answer_sound mixed Try.func82 _ _ _ (k + 1) (fun j _ => tab_sound (tab_cons (impl_SameBytes.sound j) (tab_nil))) _ _ h
  · exact (Ans.no_val h).elim

/-! loop.example/g00790/impl.VoteGood -/
def impl_VoteGood.b {R : Type} (ret : Bool → Option R) (k : Nat) (a0_0z : Bool) (a0_0 : List T) (a1_0 : Int) (a1_1 : Int) (a1_2z : Bool) (a1_2 : List Int) (a1_3 : Int) (a1_4z : Bool) (a1_4 : List Int) : Option R :=
  (impl_SignVote.f k a0_0z a0_0 a1_0 a1_1 a1_2z a1_2 a1_3).bind fun t0 => cond t0.2.2.2.2.2.2.2 ((impl_VoteSame.f k t0.1 t0.2.1 t0.2.2.1 t0.2.2.2.1 t0.2.2.2.2.1 t0.2.2.2.2.2.1 t0.2.2.2.2.2.2.1 a1_0 a1_1 a1_2z a1_2 a1_3 a1_4z a1_4).bind fun t1 => ret t1) (ret false)
def impl_VoteGood.f : Nat → Bool → (List T) → Int → Int → Bool → (List Int) → Int → Bool → (List Int) → Option Bool
  | 0, _, _, _, _, _, _, _, _, _ => none
  | k + 1, a0_0z, a0_0, a1_0, a1_1, a1_2z, a1_2, a1_3, a1_4z, a1_4 => impl_VoteGood.b some k a0_0z a0_0 a1_0 a1_1 a1_2z a1_2 a1_3 a1_4z a1_4
def impl_VoteGood.enc (r : Bool) : Res := ⟨[.vals false [((.bool r), true)]], []⟩
def impl_VoteGood.ans (k : Nat) : List Arg → Ans
  | [.v (.agg [(.sl 44 a0_0z a0_0)]), .v (.agg [(.int .i64 a1_0), (.int .i64 a1_1), (.nums 5 .u8 a1_2z a1_2), (.int .i64 a1_3), (.nums 5 .u8 a1_4z a1_4)])] => ⟨impl_VoteGood.f k a0_0z a0_0 a1_0 a1_1 a1_2z a1_2 a1_3 a1_4z a1_4, impl_VoteGood.enc⟩
  | _ => Ans.no
def impl_VoteGood.Cs (k : Nat) : CallSem := tab [(15, impl_SignVote.ans k), (82, impl_VoteSame.ans k)]
def impl_VoteGood.cuts : List (Nat × Keep) := []
theorem impl_VoteGood.s (k : Nat) (a0_0z : Bool) (a0_0 : List T) (a1_0 : Int) (a1_1 : Int) (a1_2z : Bool) (a1_2 : List Int) (a1_3 : Int) (a1_4z : Bool) (a1_4 : List Int) : answer Try.prog impl_VoteGood.Cs 100000 impl_VoteGood.cuts [] Try.f17 (k + 1) [.v (.agg [(.sl 44 a0_0z a0_0)]), .v (.agg [(.int .i64 a1_0), (.int .i64 a1_1), (.nums 5 .u8 a1_2z a1_2), (.int .i64 a1_3), (.nums 5 .u8 a1_4z a1_4)])] = impl_VoteGood.b (fun r => some (impl_VoteGood.enc r)) k a0_0z a0_0 a1_0 a1_1 a1_2z a1_2 a1_3 a1_4z a1_4 := by kernel_rfl
theorem impl_VoteGood.b_nat {R R' : Type} (e : R → R') (ret : Bool → Option R) (k : Nat) (a0_0z : Bool) (a0_0 : List T) (a1_0 : Int) (a1_1 : Int) (a1_2z : Bool) (a1_2 : List Int) (a1_3 : Int) (a1_4z : Bool) (a1_4 : List Int) : impl_VoteGood.b (fun r => (ret r).map e) k a0_0z a0_0 a1_0 a1_1 a1_2z a1_2 a1_3 a1_4z a1_4 = (impl_VoteGood.b ret k a0_0z a0_0 a1_0 a1_1 a1_2z a1_2 a1_3 a1_4z a1_4).map e := by
  unfold impl_VoteGood.b
  repeat' first | with_reducible refine nat_cond ?_ ?_ | with_reducible refine nat_bind fun _ => ?_ | rfl
theorem impl_VoteGood.eq (k : Nat) (a0_0z : Bool) (a0_0 : List T) (a1_0 : Int) (a1_1 : Int) (a1_2z : Bool) (a1_2 : List Int) (a1_3 : Int) (a1_4z : Bool) (a1_4 : List Int) : answer Try.prog impl_VoteGood.Cs 100000 impl_VoteGood.cuts [] Try.f17 (k + 1) [.v (.agg [(.sl 44 a0_0z a0_0)]), .v (.agg [(.int .i64 a1_0), (.int .i64 a1_1), (.nums 5 .u8 a1_2z a1_2), (.int .i64 a1_3), (.nums 5 .u8 a1_4z a1_4)])] = (impl_VoteGood.f (k + 1) a0_0z a0_0 a1_0 a1_1 a1_2z a1_2 a1_3 a1_4z a1_4).map impl_VoteGood.enc := by
  refine (impl_VoteGood.s k a0_0z a0_0 a1_0 a1_1 a1_2z a1_2 a1_3 a1_4z a1_4).trans (Eq.trans ?_ (impl_VoteGood.b_nat impl_VoteGood.enc some k a0_0z a0_0 a1_0 a1_1 a1_2z a1_2 a1_3 a1_4z a1_4))
  simp only [Option.map_some]
theorem impl_VoteGood.sound (k : Nat) : SoundF Try.prog 17 (fun a => (impl_VoteGood.ans k a).val) := by
  refine sound_plain (fun args res h => ?_) (fun t n => rfl)
  unfold impl_VoteGood.ans at h
  dsimp only at h
  split at h
  · cases k with
    | zero => cases h
    | succ k =>
      unfold Ans.val at h
      rw [← impl_VoteGood.eq] at h
      exact answer_sound mixed Try.func17 _ _ _ (k + 1) (fun j _ => tab_sound (tab_cons (impl_SignVote.sound j) (tab_cons (impl_VoteSame.sound j) (tab_nil)))) _ _ h
  · exact (Ans.no_val h).elim

/-! loop.example/g00790/impl.hasVote$1 -/
def impl_hasVote_1.b {R : Type} (ret : Bool → Option R) (k : Nat) (a0_0 : Int) (a0_1 : Int) (a0_2z : Bool) (a0_2 : List Int) (a0_3 : Int) (a0_4z : Bool) (a0_4 : List Int) (a1_0 : Int) (a3_0z : Bool) (a3_0 : List T) : Option R :=
  cond (decide (a0_3 = a1_0)) ((impl_Blame_1.f k a0_0 a0_1 a0_2z a0_2 a0_3 a0_4z a0_4).bind fun t0 => cond t0 ((impl_VoteGood.f k a3_0z a3_0 a0_0 a0_1 a0_2z a0_2 a0_3 a0_4z a0_4).bind fun t1 => ret t1) (ret false)) (ret false)
def impl_hasVote_1.f : Nat → Int → Int → Bool → (List Int) → Int → Bool → (List Int) → Int → Bool → (List T) → Option Bool
  | 0, _, _, _, _, _, _, _, _, _, _ => none
  | k + 1, a0_0, a0_1, a0_2z, a0_2, a0_3, a0_4z, a0_4, a1_0, a3_0z, a3_0 => impl_hasVote_1.b some k a0_0 a0_1 a0_2z a0_2 a0_3 a0_4z a0_4 a1_0 a3_0z a3_0
def impl_hasVote_1.enc (r : Bool) : Res := ⟨[.vals false [((.bool r), true)]], []⟩
def impl_hasVote_1.ans (k : Nat) : List Arg → Ans
  | [.v (.agg [(.int .i64 a0_0), (.int .i64 a0_1), (.nums 5 .u8 a0_2z a0_2), (.int .i64 a0_3), (.nums 5 .u8 a0_4z a0_4)]), .v (.ptr [(.int .i64 a1_0)]), .v (.ptr [(.fn 118 [])]), .v (.ptr [(.sl 44 a3_0z a3_0)])] => ⟨impl_hasVote_1.f k a0_0 a0_1 a0_2z a0_2 a0_3 a0_4z a0_4 a1_0 a3_0z a3_0, impl_hasVote_1.enc⟩
  | _ => Ans.no
def impl_hasVote_1.Cs (k : Nat) : CallSem := tab [(118, impl_Blame_1.ans k), (17, impl_VoteGood.ans k)]
def impl_hasVote_1.cuts : List (Nat × Keep) := []
theorem impl_hasVote_1.s (k : Nat) (a0_0 : Int) (a0_1 : Int) (a0_2z : Bool) (a0_2 : List Int) (a0_3 : Int) (a0_4z : Bool) (a0_4 : List Int) (a1_0 : Int) (a3_0z : Bool) (a3_0 : List T) : answer Try.prog impl_hasVote_1.Cs 100000 impl_hasVote_1.cuts [] Try.f169 (k + 1) [.v (.agg [(.int .i64 a0_0), (.int .i64 a0_1), (.nums 5 .u8 a0_2z a0_2), (.int .i64 a0_3), (.nums 5 .u8 a0_4z a0_4)]), .v (.ptr [(.int .i64 a1_0)]), .v (.ptr [(.fn 118 [])]), .v (.ptr [(.sl 44 a3_0z a3_0)])] = impl_hasVote_1.b (fun r => some (impl_hasVote_1.enc r)) k a0_0 a0_1 a0_2z a0_2 a0_3 a0_4z a0_4 a1_0 a3_0z a3_0 := by kernel_rfl
theorem impl_hasVote_1.b_nat {R R' : Type} (e : R → R') (ret : Bool → Option R) (k : Nat) (a0_0 : Int) (a0_1 : Int) (a0_2z : Bool) (a0_2 : List Int) (a0_3 : Int) (a0_4z : Bool) (a0_4 : List Int) (a1_0 : Int) (a3_0z : Bool) (a3_0 : List T) : impl_hasVote_1.b (fun r => (ret r).map e) k a0_0 a0_1 a0_2z a0_2 a0_3 a0_4z a0_4 a1_0 a3_0z a3_0 = (impl_hasVote_1.b ret k a0_0 a0_1 a0_2z a0_2 a0_3 a0_4z a0_4 a1_0 a3_0z a3_0).map e := by
  unfold impl_hasVote_1.b
  repeat' first | with_reducible refine nat_cond ?_ ?_ | with_reducible refine nat_bind fun _ => ?_ | rfl
theorem impl_hasVote_1.eq (k : Nat) (a0_0 : Int) (a0_1 : Int) (a0_2z : Bool) (a0_2 : List Int) (a0_3 : Int) (a0_4z : Bool) (a0_4 : List Int) (a1_0 : Int) (a3_0z : Bool) (a3_0 : List T) : answer Try.prog impl_hasVote_1.Cs 100000 impl_hasVote_1.cuts [] Try.f169 (k + 1) [.v (.agg [(.int .i64 a0_0), (.int .i64 a0_1), (.nums 5 .u8 a0_2z a0_2), (.int .i64 a0_3), (.nums 5 .u8 a0_4z a0_4)]), .v (.ptr [(.int .i64 a1_0)]), .v (.ptr [(.fn 118 [])]), .v (.ptr [(.sl 44 a3_0z a3_0)])] = (impl_hasVote_1.f (k + 1) a0_0 a0_1 a0_2z a0_2 a0_3 a0_4z a0_4 a1_0 a3_0z a3_0).map impl_hasVote_1.enc := by
  refine (impl_hasVote_1.s k a0_0 a0_1 a0_2z a0_2 a0_3 a0_4z a0_4 a1_0 a3_0z a3_0).trans (Eq.trans ?_ (impl_hasVote_1.b_nat impl_hasVote_1.enc some k a0_0 a0_1 a0_2z a0_2 a0_3 a0_4z a0_4 a1_0 a3_0z a3_0))
  simp only [Option.map_some]
theorem impl_hasVote_1.sound (k : Nat) : SoundF Try.prog 169 (fun a => (impl_hasVote_1.ans k a).val) := by
  refine sound_plain (fun args res h => ?_) (fun t n => rfl)
  unfold impl_hasVote_1.ans at h
  dsimp only at h
  split at h
  · cases k with
    | zero => cases h
    | succ k =>
      unfold Ans.val at h
      rw [← impl_hasVote_1.eq] at h
      exact answer_sound mixed Try.func169 _ _ _ (k + 1) (fun j _ => tab_sound (tab_cons (impl_Blame_1.sound j) (tab_cons (impl_VoteGood.sound j) (tab_nil)))) _ _ h
  · exact (Ans.no_val h).elim

/-! slices.IndexFunc[[]loop.example/g00790/impl.Vote,loop.example/g00790/impl.Vote] -/
def impl_Vote_106.b {R : Type} (ret : Int → Option R) (j0 : Bool → (List T) → Int → Bool → (List T) → Int → Int → Option R) (k : Nat) (a0z : Bool) (a0 : List T) (a1_0_0 : Int) (a1_2_0z : Bool) (a1_2_0 : List T) : Option R :=
  j0 a0z a0 a1_0_0 a1_2_0z a1_2_0 ((a0).length : Int) 0
def impl_Vote_106.l0b {R : Type} (ret : Int → Option R) (j0 : Bool → (List T) → Int → Bool → (List T) → Int → Int → Option R) (k : Nat) (x0z : Bool) (x0 : List T) (x1_0_0 : Int) (x1_2_0z : Bool) (x1_2_0 : List T) (x7 : Int) (x8 : Int) : Option R :=
  cond (decide (x8 < x7)) (cond (decide ((0 : Int) ≤ x8)) (cond (decide (x8 < ((x0).length : Int))) ((impl_hasVote_1.f k (((((x0).getD (x8).toNat .bad).cells.getD 0 .bad)).toInt) (((((x0).getD (x8).toNat .bad).cells.getD 1 .bad)).toInt) (((((x0).getD (x8).toNat .bad).cells.getD 2 .bad)).isNil) (((((x0).getD (x8).toNat .bad).cells.getD 2 .bad)).toNums) (((((x0).getD (x8).toNat .bad).cells.getD 3 .bad)).toInt) (((((x0).getD (x8).toNat .bad).cells.getD 4 .bad)).isNil) (((((x0).getD (x8).toNat .bad).cells.getD 4 .bad)).toNums) x1_0_0 x1_2_0z x1_2_0).bind fun t0 => cond t0 (ret x8) (j0 x0z x0 x1_0_0 x1_2_0z x1_2_0 x7 (RowKit.wrap64 (x8 + 1)))) (none)) (none)) (ret (-1))
def impl_Vote_106.l0 : Nat → Bool → (List T) → Int → Bool → (List T) → Int → Int → Option Int
  | 0, _, _, _, _, _, _, _ => none
  | k + 1, x0z, x0, x1_0_0, x1_2_0z, x1_2_0, x7, x8 => impl_Vote_106.l0b some (impl_Vote_106.l0 k) k x0z x0 x1_0_0 x1_2_0z x1_2_0 x7 x8
def impl_Vote_106.f : Nat → Bool → (List T) → Int → Bool → (List T) → Option Int
  | 0, _, _, _, _, _ => none
  | k + 1, a0z, a0, a1_0_0, a1_2_0z, a1_2_0 => impl_Vote_106.b some (impl_Vote_106.l0 k) k a0z a0 a1_0_0 a1_2_0z a1_2_0
def impl_Vote_106.enc (r : Int) : Res := ⟨[.vals false [((.int .i64 r), true)]], []⟩
def impl_Vote_106.ans (k : Nat) : List Arg → Ans
  | [.v (.sl 33 a0z a0), .v (.fn 169 [(.ptr [(.int .i64 a1_0_0)]), (.ptr [(.fn 118 [])]), (.ptr [(.sl 44 a1_2_0z a1_2_0)])])] => ⟨impl_Vote_106.f k a0z a0 a1_0_0 a1_2_0z a1_2_0, impl_Vote_106.enc⟩
  | _ => Ans.no
def impl_Vote_106.Cs (k : Nat) : CallSem := tab [(169, impl_hasVote_1.ans k)]
def impl_Vote_106.cuts : List (Nat × Keep) := [(26, ⟨[(0, some []), (1, some []), (7, some []), (8, some [])], []⟩)]
noncomputable def impl_Vote_106.K0 : List Fr := framesAt [true, false, true, false] (bodyOf Try.f106 impl_Vote_106.cuts) []
def impl_Vote_106.N0 (x0z : Bool) (x0 : List T) (x1_0_0 : Int) (x1_2_0z : Bool) (x1_2_0 : List T) (x7 : Int) (x8 : Int) : St := stOf 19 19 2 [(0, .val ⟨(.sl 33 x0z x0), [], false, none⟩), (1, .val ⟨(.fn 169 [(.ptr [(.int .i64 x1_0_0)]), (.ptr [(.fn 118 [])]), (.ptr [(.sl 44 x1_2_0z x1_2_0)])]), [], false, none⟩), (7, .val (V.s (.int .i64 x7))), (8, .val (V.s (.int .i64 x8)))] []
theorem impl_Vote_106.s (k : Nat) (a0z : Bool) (a0 : List T) (a1_0_0 : Int) (a1_2_0z : Bool) (a1_2_0 : List T) : answer Try.prog impl_Vote_106.Cs 100000 impl_Vote_106.cuts [] Try.f106 (k + 1) [.v (.sl 33 a0z a0), .v (.fn 169 [(.ptr [(.int .i64 a1_0_0)]), (.ptr [(.fn 118 [])]), (.ptr [(.sl 44 a1_2_0z a1_2_0)])])] = impl_Vote_106.b (fun r => some (impl_Vote_106.enc r)) (fun x0z x0 x1_0_0 x1_2_0z x1_2_0 x7 x8 => rounds Try.prog impl_Vote_106.Cs (finish Try.prog [] Try.f106 [.v (.sl 33 a0z a0), .v (.fn 169 [(.ptr [(.int .i64 a1_0_0)]), (.ptr [(.fn 118 [])]), (.ptr [(.sl 44 a1_2_0z a1_2_0)])])]) 100000 k impl_Vote_106.K0 (impl_Vote_106.N0 x0z x0 x1_0_0 x1_2_0z x1_2_0 x7 x8)) k a0z a0 a1_0_0 a1_2_0z a1_2_0 := by kernel_rfl
theorem impl_Vote_106.s0 (k : Nat) (G : List Fr → St → Option Res) (a0z : Bool) (a0 : List T) (a1_0_0 : Int) (a1_2_0z : Bool) (a1_2_0 : List T) (yx0z : Bool) (yx0 : List T) (yx1_0_0 : Int) (yx1_2_0z : Bool) (yx1_2_0 : List T) (yx7 : Int) (yx8 : Int) : resume Try.prog (impl_Vote_106.Cs k) G (finish Try.prog [] Try.f106 [.v (.sl 33 a0z a0), .v (.fn 169 [(.ptr [(.int .i64 a1_0_0)]), (.ptr [(.fn 118 [])]), (.ptr [(.sl 44 a1_2_0z a1_2_0)])])]) 100000 impl_Vote_106.K0 (impl_Vote_106.N0 yx0z yx0 yx1_0_0 yx1_2_0z yx1_2_0 yx7 yx8) = impl_Vote_106.l0b (fun r => some (impl_Vote_106.enc r)) (fun x0z x0 x1_0_0 x1_2_0z x1_2_0 x7 x8 => G impl_Vote_106.K0 (impl_Vote_106.N0 x0z x0 x1_0_0 x1_2_0z x1_2_0 x7 x8)) k yx0z yx0 yx1_0_0 yx1_2_0z yx1_2_0 yx7 yx8 := by kernel_rfl
theorem impl_Vote_106.b_nat {R R' : Type} (e : R → R') (ret : Int → Option R) (j0 : Bool → (List T) → Int → Bool → (List T) → Int → Int → Option R) (k : Nat) (a0z : Bool) (a0 : List T) (a1_0_0 : Int) (a1_2_0z : Bool) (a1_2_0 : List T) : impl_Vote_106.b (fun r => (ret r).map e) (fun x0z x0 x1_0_0 x1_2_0z x1_2_0 x7 x8 => (j0 x0z x0 x1_0_0 x1_2_0z x1_2_0 x7 x8).map e) k a0z a0 a1_0_0 a1_2_0z a1_2_0 = (impl_Vote_106.b ret j0 k a0z a0 a1_0_0 a1_2_0z a1_2_0).map e := by
  unfold impl_Vote_106.b
  repeat' first | with_reducible refine nat_cond ?_ ?_ | with_reducible refine nat_bind fun _ => ?_ | rfl
theorem impl_Vote_106.l0b_nat {R R' : Type} (e : R → R') (ret : Int → Option R) (j0 : Bool → (List T) → Int → Bool → (List T) → Int → Int → Option R) (k : Nat) (x0z : Bool) (x0 : List T) (x1_0_0 : Int) (x1_2_0z : Bool) (x1_2_0 : List T) (x7 : Int) (x8 : Int) : impl_Vote_106.l0b (fun r => (ret r).map e) (fun x0z x0 x1_0_0 x1_2_0z x1_2_0 x7 x8 => (j0 x0z x0 x1_0_0 x1_2_0z x1_2_0 x7 x8).map e) k x0z x0 x1_0_0 x1_2_0z x1_2_0 x7 x8 = (impl_Vote_106.l0b ret j0 k x0z x0 x1_0_0 x1_2_0z x1_2_0 x7 x8).map e := by
  unfold impl_Vote_106.l0b
  repeat' first | with_reducible refine nat_cond ?_ ?_ | with_reducible refine nat_bind fun _ => ?_ | rfl
theorem impl_Vote_106.rounds_eq (a0z : Bool) (a0 : List T) (a1_0_0 : Int) (a1_2_0z : Bool) (a1_2_0 : List T) : ∀ k, (∀ (x0z : Bool) (x0 : List T) (x1_0_0 : Int) (x1_2_0z : Bool) (x1_2_0 : List T) (x7 : Int) (x8 : Int), rounds Try.prog impl_Vote_106.Cs (finish Try.prog [] Try.f106 [.v (.sl 33 a0z a0), .v (.fn 169 [(.ptr [(.int .i64 a1_0_0)]), (.ptr [(.fn 118 [])]), (.ptr [(.sl 44 a1_2_0z a1_2_0)])])]) 100000 k impl_Vote_106.K0 (impl_Vote_106.N0 x0z x0 x1_0_0 x1_2_0z x1_2_0 x7 x8) = (impl_Vote_106.l0 k x0z x0 x1_0_0 x1_2_0z x1_2_0 x7 x8).map impl_Vote_106.enc)
  | 0 => fun _ _ _ _ _ _ _ => rfl
  | k + 1 => by
    have ih := impl_Vote_106.rounds_eq a0z a0 a1_0_0 a1_2_0z a1_2_0 k
    refine fun _ _ _ _ _ _ _ => ?_
    · refine (impl_Vote_106.s0 k _ a0z a0 a1_0_0 a1_2_0z a1_2_0 _ _ _ _ _ _ _).trans (Eq.trans ?_ (impl_Vote_106.l0b_nat impl_Vote_106.enc some (impl_Vote_106.l0 k) k _ _ _ _ _ _ _))
      simp only [ih, Option.map_some]
theorem impl_Vote_106.eq (k : Nat) (a0z : Bool) (a0 : List T) (a1_0_0 : Int) (a1_2_0z : Bool) (a1_2_0 : List T) : answer Try.prog impl_Vote_106.Cs 100000 impl_Vote_106.cuts [] Try.f106 (k + 1) [.v (.sl 33 a0z a0), .v (.fn 169 [(.ptr [(.int .i64 a1_0_0)]), (.ptr [(.fn 118 [])]), (.ptr [(.sl 44 a1_2_0z a1_2_0)])])] = (impl_Vote_106.f (k + 1) a0z a0 a1_0_0 a1_2_0z a1_2_0).map impl_Vote_106.enc := by
  have ih := impl_Vote_106.rounds_eq a0z a0 a1_0_0 a1_2_0z a1_2_0 k
  refine (impl_Vote_106.s k a0z a0 a1_0_0 a1_2_0z a1_2_0).trans (Eq.trans ?_ (impl_Vote_106.b_nat impl_Vote_106.enc some (impl_Vote_106.l0 k) k a0z a0 a1_0_0 a1_2_0z a1_2_0))
  simp only [ih, Option.map_some]
theorem impl_Vote_106.sound (k : Nat) : SoundF Try.prog 106 (fun a => (impl_Vote_106.ans k a).val) := by
  refine sound_plain (fun args res h => ?_) (fun t n => rfl)
  unfold impl_Vote_106.ans at h
  dsimp only at h
  split at h
  · cases k with
    | zero => cases h
    | succ k =>
      unfold Ans.val at h
      rw [← impl_Vote_106.eq] at h
      exact answer_sound mixed Try.func106 _ _ _ (k + 1) (fun j _ => tab_sound (tab_cons (impl_hasVote_1.sound j) (tab_nil))) _ _ h
  · exact (Ans.no_val h).elim

/-! slices.ContainsFunc[[]loop.example/g00790/impl.Vote,loop.example/g00790/impl.Vote] -/
def impl_Vote.b {R : Type} (ret : Bool → Option R) (k : Nat) (a0z : Bool) (a0 : List T) (a1_0_0 : Int) (a1_2_0z : Bool) (a1_2_0 : List T) : Option R :=
  (impl_Vote_106.f k a0z a0 a1_0_0 a1_2_0z a1_2_0).bind fun t0 => ret (decide (t0 ≥ 0))
def impl_Vote.f : Nat → Bool → (List T) → Int → Bool → (List T) → Option Bool
  | 0, _, _, _, _, _ => none
  | k + 1, a0z, a0, a1_0_0, a1_2_0z, a1_2_0 => impl_Vote.b some k a0z a0 a1_0_0 a1_2_0z a1_2_0
def impl_Vote.enc (r : Bool) : Res := ⟨[.vals false [((.bool r), true)]], []⟩
def impl_Vote.ans (k : Nat) : List Arg → Ans
  | [.v (.sl 33 a0z a0), .v (.fn 169 [(.ptr [(.int .i64 a1_0_0)]), (.ptr [(.fn 118 [])]), (.ptr [(.sl 44 a1_2_0z a1_2_0)])])] => ⟨impl_Vote.f k a0z a0 a1_0_0 a1_2_0z a1_2_0, impl_Vote.enc⟩
  | _ => Ans.no
def impl_Vote.Cs (k : Nat) : CallSem := tab [(106, impl_Vote_106.ans k)]
def impl_Vote.cuts : List (Nat × Keep) := []
theorem impl_Vote.s (k : Nat) (a0z : Bool) (a0 : List T) (a1_0_0 : Int) (a1_2_0z : Bool) (a1_2_0 : List T) : answer Try.prog impl_Vote.Cs 100000 impl_Vote.cuts [] Try.f168 (k + 1) [.v (.sl 33 a0z a0), .v (.fn 169 [(.ptr [(.int .i64 a1_0_0)]), (.ptr [(.fn 118 [])]), (.ptr [(.sl 44 a1_2_0z a1_2_0)])])] = impl_Vote.b (fun r => some (impl_Vote.enc r)) k a0z a0 a1_0_0 a1_2_0z a1_2_0 := by kernel_rfl
theorem impl_Vote.b_nat {R R' : Type} (e : R → R') (ret : Bool → Option R) (k : Nat) (a0z : Bool) (a0 : List T) (a1_0_0 : Int) (a1_2_0z : Bool) (a1_2_0 : List T) : impl_Vote.b (fun r => (ret r).map e) k a0z a0 a1_0_0 a1_2_0z a1_2_0 = (impl_Vote.b ret k a0z a0 a1_0_0 a1_2_0z a1_2_0).map e := by
  unfold impl_Vote.b
  repeat' first | with_reducible refine nat_cond ?_ ?_ | with_reducible refine nat_bind fun _ => ?_ | rfl
theorem impl_Vote.eq (k : Nat) (a0z : Bool) (a0 : List T) (a1_0_0 : Int) (a1_2_0z : Bool) (a1_2_0 : List T) : answer Try.prog impl_Vote.Cs 100000 impl_Vote.cuts [] Try.f168 (k + 1) [.v (.sl 33 a0z a0), .v (.fn 169 [(.ptr [(.int .i64 a1_0_0)]), (.ptr [(.fn 118 [])]), (.ptr [(.sl 44 a1_2_0z a1_2_0)])])] = (impl_Vote.f (k + 1) a0z a0 a1_0_0 a1_2_0z a1_2_0).map impl_Vote.enc := by
  refine (impl_Vote.s k a0z a0 a1_0_0 a1_2_0z a1_2_0).trans (Eq.trans ?_ (impl_Vote.b_nat impl_Vote.enc some k a0z a0 a1_0_0 a1_2_0z a1_2_0))
  simp only [Option.map_some]
theorem impl_Vote.sound (k : Nat) : SoundF Try.prog 168 (fun a => (impl_Vote.ans k a).val) := by
  refine sound_plain (fun args res h => ?_) (fun t n => rfl)
  unfold impl_Vote.ans at h
  dsimp only at h
  split at h
  · cases k with
    | zero => cases h
    | succ k =>
      unfold Ans.val at h
      rw [← impl_Vote.eq] at h
      exact answer_sound mixed Try.func168 _ _ _ (k + 1) (fun j _ => tab_sound (tab_cons (impl_Vote_106.sound j) (tab_nil))) _ _ h
  · exact (Ans.no_val h).elim

/-! loop.example/g00790/impl.hasVote -/
def impl_hasVote.b {R : Type} (ret : Bool → Option R) (k : Nat) (a0_0z : Bool) (a0_0 : List T) (a1z : Bool) (a1 : List T) (a2 : Int) : Option R :=
  (impl_Vote.f k a1z a1 a2 a0_0z a0_0).bind fun t0 => ret t0
def impl_hasVote.f : Nat → Bool → (List T) → Bool → (List T) → Int → Option Bool
  | 0, _, _, _, _, _ => none
  | k + 1, a0_0z, a0_0, a1z, a1, a2 => impl_hasVote.b some k a0_0z a0_0 a1z a1 a2
def impl_hasVote.enc (r : Bool) : Res := ⟨[.vals false [((.bool r), true)]], []⟩
def impl_hasVote.ans (k : Nat) : List Arg → Ans
  | [.v (.agg [(.sl 44 a0_0z a0_0)]), .v (.sl 33 a1z a1), .v (.int .i64 a2), .v (.fn 118 [])] => ⟨impl_hasVote.f k a0_0z a0_0 a1z a1 a2, impl_hasVote.enc⟩
  | _ => Ans.no
def impl_hasVote.Cs (k : Nat) : CallSem := tab [(168, impl_Vote.ans k)]
def impl_hasVote.cuts : List (Nat × Keep) := []
theorem impl_hasVote.s (k : Nat) (a0_0z : Bool) (a0_0 : List T) (a1z : Bool) (a1 : List T) (a2 : Int) : answer Try.prog impl_hasVote.Cs 100000 impl_hasVote.cuts [] Try.f110 (k + 1) [.v (.agg [(.sl 44 a0_0z a0_0)]), .v (.sl 33 a1z a1), .v (.int .i64 a2), .v (.fn 118 [])] = impl_hasVote.b (fun r => some (impl_hasVote.enc r)) k a0_0z a0_0 a1z a1 a2 := by kernel_rfl
theorem impl_hasVote.b_nat {R R' : Type} (e : R → R') (ret : Bool → Option R) (k : Nat) (a0_0z : Bool) (a0_0 : List T) (a1z : Bool) (a1 : List T) (a2 : Int) : impl_hasVote.b (fun r => (ret r).map e) k a0_0z a0_0 a1z a1 a2 = (impl_hasVote.b ret k a0_0z a0_0 a1z a1 a2).map e := by
  unfold impl_hasVote.b
  repeat' first | with_reducible refine nat_cond ?_ ?_ | with_reducible refine nat_bind fun _ => ?_ | rfl
theorem impl_hasVote.eq (k : Nat) (a0_0z : Bool) (a0_0 : List T) (a1z : Bool) (a1 : List T) (a2 : Int) : answer Try.prog impl_hasVote.Cs 100000 impl_hasVote.cuts [] Try.f110 (k + 1) [.v (.agg [(.sl 44 a0_0z a0_0)]), .v (.sl 33 a1z a1), .v (.int .i64 a2), .v (.fn 118 [])] = (impl_hasVote.f (k + 1) a0_0z a0_0 a1z a1 a2).map impl_hasVote.enc := by
  refine (impl_hasVote.s k a0_0z a0_0 a1z a1 a2).trans (Eq.trans ?_ (impl_hasVote.b_nat impl_hasVote.enc some k a0_0z a0_0 a1z a1 a2))
  simp only [Option.map_some]
theorem impl_hasVote.sound (k : Nat) : SoundF Try.prog 110 (fun a => (impl_hasVote.ans k a).val) := by
  refine sound_plain (fun args res h => ?_) (fun t n => rfl)
  unfold impl_hasVote.ans at h
  dsimp only at h
  split at h
  · cases k with
    | zero => cases h
    | succ k =>
      unfold Ans.val at h
      rw [← impl_hasVote.eq] at h
      exact answer_sound mixed Try.func110 _ _ _ (k + 1) (fun j _ => tab_sound (tab_cons (impl_Vote.sound j) (tab_nil))) _ _ h
  · exact (Ans.no_val h).elim

/-! loop.example/g00790/impl.Blame$2 -/
def impl_Blame_2.b {R : Type} (ret : Bool → Option R) (k : Nat) (a0 : Int) (a1_0 : Bool) (a2_0z : Bool) (a2_0 : List T) (a3_0 : Int) (a3_1 : Int) (a3_2z : Bool) (a3_2 : List Int) (a3_3z : Bool) (a3_3 : List Int) (a3_4z : Bool) (a3_4 : List T) (a5_0 : Int) (a5_1 : Int) (a5_2z : Bool) (a5_2 : List Int) (a5_3z : Bool) (a5_3 : List Int) (a5_4z : Bool) (a5_4 : List T) : Option R :=
  cond a1_0 ((impl_QcVotes.f k a3_0 a3_1 a3_2z a3_2 a3_3z a3_3 a3_4z a3_4).bind fun t0 => (impl_hasVote.f k a2_0z a2_0 t0.1 t0.2 a0).bind fun t1 => cond t1 ((impl_QcVotes.f k a5_0 a5_1 a5_2z a5_2 a5_3z a5_3 a5_4z a5_4).bind fun t2 => (impl_hasVote.f k a2_0z a2_0 t2.1 t2.2 a0).bind fun t3 => ret t3) (ret false)) (ret false)
def impl_Blame_2.f : Nat → Int → Bool → Bool → (List T) → Int → Int → Bool → (List Int) → Bool → (List Int) → Bool → (List T) → Int → Int → Bool → (List Int) → Bool → (List Int) → Bool → (List T) → Option Bool
  | 0, _, _, _, _, _, _, _, _, _, _, _, _, _, _, _, _, _, _, _, _ => none
  | k + 1, a0, a1_0, a2_0z, a2_0, a3_0, a3_1, a3_2z, a3_2, a3_3z, a3_3, a3_4z, a3_4, a5_0, a5_1, a5_2z, a5_2, a5_3z, a5_3, a5_4z, a5_4 => impl_Blame_2.b some k a0 a1_0 a2_0z a2_0 a3_0 a3_1 a3_2z a3_2 a3_3z a3_3 a3_4z a3_4 a5_0 a5_1 a5_2z a5_2 a5_3z a5_3 a5_4z a5_4
def impl_Blame_2.enc (r : Bool) : Res := ⟨[.vals false [((.bool r), true)]], []⟩
def impl_Blame_2.ans (k : Nat) : List Arg → Ans
  | [.v (.int .i64 a0), .v (.ptr [(.bool a1_0)]), .v (.ptr [(.sl 44 a2_0z a2_0)]), .v (.ptr [(.int .i64 a3_0), (.int .i64 a3_1), (.nums 5 .u8 a3_2z a3_2), (.nums 5 .u8 a3_3z a3_3), (.sl 22 a3_4z a3_4)]), .v (.ptr [(.fn 118 [])]), .v (.ptr [(.int .i64 a5_0), (.int .i64 a5_1), (.nums 5 .u8 a5_2z a5_2), (.nums 5 .u8 a5_3z a5_3), (.sl 22 a5_4z a5_4)])] => ⟨impl_Blame_2.f k a0 a1_0 a2_0z a2_0 a3_0 a3_1 a3_2z a3_2 a3_3z a3_3 a3_4z a3_4 a5_0 a5_1 a5_2z a5_2 a5_3z a5_3 a5_4z a5_4, impl_Blame_2.enc⟩
  | _ => Ans.no
def impl_Blame_2.Cs (k : Nat) : CallSem := tab [(24, impl_QcVotes.ans k), (110, impl_hasVote.ans k)]
def impl_Blame_2.cuts : List (Nat × Keep) := []
theorem impl_Blame_2.s (k : Nat) (a0 : Int) (a1_0 : Bool) (a2_0z : Bool) (a2_0 : List T) (a3_0 : Int) (a3_1 : Int) (a3_2z : Bool) (a3_2 : List Int) (a3_3z : Bool) (a3_3 : List Int) (a3_4z : Bool) (a3_4 : List T) (a5_0 : Int) (a5_1 : Int) (a5_2z : Bool) (a5_2 : List Int) (a5_3z : Bool) (a5_3 : List Int) (a5_4z : Bool) (a5_4 : List T) : answer Try.prog impl_Blame_2.Cs 100000 impl_Blame_2.cuts [] Try.f119 (k + 1) [.v (.int .i64 a0), .v (.ptr [(.bool a1_0)]), .v (.ptr [(.sl 44 a2_0z a2_0)]), .v (.ptr [(.int .i64 a3_0), (.int .i64 a3_1), (.nums 5 .u8 a3_2z a3_2), (.nums 5 .u8 a3_3z a3_3), (.sl 22 a3_4z a3_4)]), .v (.ptr [(.fn 118 [])]), .v (.ptr [(.int .i64 a5_0), (.int .i64 a5_1), (.nums 5 .u8 a5_2z a5_2), (.nums 5 .u8 a5_3z a5_3), (.sl 22 a5_4z a5_4)])] = impl_Blame_2.b (fun r => some (impl_Blame_2.enc r)) k a0 a1_0 a2_0z a2_0 a3_0 a3_1 a3_2z a3_2 a3_3z a3_3 a3_4z a3_4 a5_0 a5_1 a5_2z a5_2 a5_3z a5_3 a5_4z a5_4 := by kernel_rfl
theorem impl_Blame_2.b_nat {R R' : Type} (e : R → R') (ret : Bool → Option R) (k : Nat) (a0 : Int) (a1_0 : Bool) (a2_0z : Bool) (a2_0 : List T) (a3_0 : Int) (a3_1 : Int) (a3_2z : Bool) (a3_2 : List Int) (a3_3z : Bool) (a3_3 : List Int) (a3_4z : Bool) (a3_4 : List T) (a5_0 : Int) (a5_1 : Int) (a5_2z : Bool) (a5_2 : List Int) (a5_3z : Bool) (a5_3 : List Int) (a5_4z : Bool) (a5_4 : List T) : impl_Blame_2.b (fun r => (ret r).map e) k a0 a1_0 a2_0z a2_0 a3_0 a3_1 a3_2z a3_2 a3_3z a3_3 a3_4z a3_4 a5_0 a5_1 a5_2z a5_2 a5_3z a5_3 a5_4z a5_4 = (impl_Blame_2.b ret k a0 a1_0 a2_0z a2_0 a3_0 a3_1 a3_2z a3_2 a3_3z a3_3 a3_4z a3_4 a5_0 a5_1 a5_2z a5_2 a5_3z a5_3 a5_4z a5_4).map e := by
  unfold impl_Blame_2.b
  repeat' first | with_reducible refine nat_cond ?_ ?_ | with_reducible refine nat_bind fun _ => ?_ | rfl
theorem impl_Blame_2.eq (k : Nat) (a0 : Int) (a1_0 : Bool) (a2_0z : Bool) (a2_0 : List T) (a3_0 : Int) (a3_1 : Int) (a3_2z : Bool) (a3_2 : List Int) (a3_3z : Bool) (a3_3 : List Int) (a3_4z : Bool) (a3_4 : List T) (a5_0 : Int) (a5_1 : Int) (a5_2z : Bool) (a5_2 : List Int) (a5_3z : Bool) (a5_3 : List Int) (a5_4z : Bool) (a5_4 : List T) : answer Try.prog impl_Blame_2.Cs 100000 impl_Blame_2.cuts [] Try.f119 (k + 1) [.v (.int .i64 a0), .v (.ptr [(.bool a1_0)]), .v (.ptr [(.sl 44 a2_0z a2_0)]), .v (.ptr [(.int .i64 a3_0), (.int .i64 a3_1), (.nums 5 .u8 a3_2z a3_2), (.nums 5 .u8 a3_3z a3_3), (.sl 22 a3_4z a3_4)]), .v (.ptr [(.fn 118 [])]), .v (.ptr [(.int .i64 a5_0), (.int .i64 a5_1), (.nums 5 .u8 a5_2z a5_2), (.nums 5 .u8 a5_3z a5_3), (.sl 22 a5_4z a5_4)])] = (impl_Blame_2.f (k + 1) a0 a1_0 a2_0z a2_0 a3_0 a3_1 a3_2z a3_2 a3_3z a3_3 a3_4z a3_4 a5_0 a5_1 a5_2z a5_2 a5_3z a5_3 a5_4z a5_4).map impl_Blame_2.enc := by
  refine (impl_Blame_2.s k a0 a1_0 a2_0z a2_0 a3_0 a3_1 a3_2z a3_2 a3_3z a3_3 a3_4z a3_4 a5_0 a5_1 a5_2z a5_2 a5_3z a5_3 a5_4z a5_4).trans (Eq.trans ?_ (impl_Blame_2.b_nat impl_Blame_2.enc some k a0 a1_0 a2_0z a2_0 a3_0 a3_1 a3_2z a3_2 a3_3z a3_3 a3_4z a3_4 a5_0 a5_1 a5_2z a5_2 a5_3z a5_3 a5_4z a5_4))
  simp only [Option.map_some]
theorem impl_Blame_2.sound (k : Nat) : SoundF Try.prog 119 (fun a => (impl_Blame_2.ans k a).val) := by
  refine sound_plain (fun args res h => ?_) (fun t n => rfl)
  unfold impl_Blame_2.ans at h
  dsimp only at h
  split at h
  · cases k with
    | zero => cases h
    | succ k =>
      unfold Ans.val at h
      rw [← impl_Blame_2.eq] at h
      exact answer_sound mixed Try.func119 _ _ _ (k + 1) (fun j _ => tab_sound (tab_cons (impl_QcVotes.sound j) (tab_cons (impl_hasVote.sound j) (tab_nil)))) _ _ h
  · exact (Ans.no_val h).elim

/-! loop.example/g00790/impl.BitsNew -/
def impl_BitsNew.b {R : Type} (ret : Bool × List Int → Option R) (k : Nat) (a0 : Int) : Option R :=
  (impl_within.f k a0 1 10).bind fun t0 => cond (!t0) (ret (true, ([] : List Int))) ((impl_BitsSize.f k a0).bind fun t1 => cond (decide (t1 = t1)) (cond (decide ((0 : Int) ≤ t1)) (cond (decide ((t1).toNat < 140737488355328)) (ret (false, (List.replicate (t1).toNat (0 : Int)))) (none)) (none)) (none))
def impl_BitsNew.f : Nat → Int → Option (Bool × List Int)
  | 0, _ => none
  | k + 1, a0 => impl_BitsNew.b some k a0
def impl_BitsNew.enc (r : Bool × List Int) : Res := ⟨[.vals false [((.nums 5 .u8 r.1 r.2), true)]], []⟩
def impl_BitsNew.ans (k : Nat) : List Arg → Ans
  | [.v (.int .i64 a0)] => ⟨impl_BitsNew.f k a0, impl_BitsNew.enc⟩
  | _ => Ans.no
def impl_BitsNew.Cs (k : Nat) : CallSem := tab [(79, impl_within.ans k), (153, impl_BitsSize.ans k)]
def impl_BitsNew.cuts : List (Nat × Keep) := []
theorem impl_BitsNew.s (k : Nat) (a0 : Int) : answer Try.prog impl_BitsNew.Cs 100000 impl_BitsNew.cuts [] Try.f154 (k + 1) [.v (.int .i64 a0)] = impl_BitsNew.b (fun r => some (impl_BitsNew.enc r)) k a0 := by kernel_rfl
theorem impl_BitsNew.b_nat {R R' : Type} (e : R → R') (ret : Bool × List Int → Option R) (k : Nat) (a0 : Int) : impl_BitsNew.b (fun r => (ret r).map e) k a0 = (impl_BitsNew.b ret k a0).map e := by
  unfold impl_BitsNew.b
  repeat' first | with_reducible refine nat_cond ?_ ?_ | with_reducible refine nat_bind fun _ => ?_ | rfl
theorem impl_BitsNew.eq (k : Nat) (a0 : Int) : answer Try.prog impl_BitsNew.Cs 100000 impl_BitsNew.cuts [] Try.f154 (k + 1) [.v (.int .i64 a0)] = (impl_BitsNew.f (k + 1) a0).map impl_BitsNew.enc := by
  refine (impl_BitsNew.s k a0).trans (Eq.trans ?_ (impl_BitsNew.b_nat impl_BitsNew.enc some k a0))
  simp only [Option.map_some]
theorem impl_BitsNew.sound (k : Nat) : SoundF Try.prog 154 (fun a => (impl_BitsNew.ans k a).val) := by
  refine sound_plain (fun args res h => ?_) (fun t n => rfl)
  unfold impl_BitsNew.ans at h
  dsimp only at h
  split at h
  · cases k with
    | zero => cases h
    | succ k =>
      unfold Ans.val at h
      rw [← impl_BitsNew.eq] at h
      exact answer_sound mixed Try.func154 _ _ _ (k + 1) (fun j _ => tab_sound (tab_cons (impl_within.sound j) (tab_cons (impl_BitsSize.sound j) (tab_nil)))) _ _ h
  · exact (Ans.no_val h).elim

/-! loop.example/g00790/impl.BitsOf -/
def impl_BitsOf.b {R : Type} (ret : Bool × (List Int) × Bool → Option R) (j0 : Int → Bool → (List Int) → Bool → (List Int) → Int → Int → Option R) (k : Nat) (a0z : Bool) (a0 : List Int) (a1 : Int) : Option R :=
  (impl_within.f k a1 1 10).bind fun t0 => cond (!t0) (ret (true, ([] : List Int), false)) ((impl_BitsNew.f k a1).bind fun t1 => j0 a1 t1.1 t1.2 a0z a0 ((a0).length : Int) 0)
def impl_BitsOf.l0b {R : Type} (ret : Bool × (List Int) × Bool → Option R) (j0 : Int → Bool → (List Int) → Bool → (List Int) → Int → Int → Option R) (k : Nat) (x1 : Int) (x6z : Bool) (x6 : List Int) (x14z : Bool) (x14 : List Int) (x15 : Int) (x16 : Int) : Option R :=
  cond (decide (x16 < x15)) (cond (decide ((0 : Int) ≤ x16)) (cond (decide (x16 < ((x14).length : Int))) ((impl_within.f k (rdI x14 x16) 0 (RowKit.wrap64 (x1 - 1))).bind fun t0 => cond (!t0) (ret (true, ([] : List Int), false)) (cond (decide ((0 : Int) ≤ (RowKit.wrap64 (Int.tdiv (rdI x14 x16) 8)))) (cond (decide ((RowKit.wrap64 (Int.tdiv (rdI x14 x16) 8)) < ((x6).length : Int))) (cond (decide ((0 : Int) ≤ (Int.tmod (rdI x14 x16) 8))) (cond (decide ((0 : Int) ≤ (RowKit.wrap64 (Int.tdiv (rdI x14 x16) 8)))) (cond (decide ((RowKit.wrap64 (Int.tdiv (rdI x14 x16) 8)) < ((x6).length : Int))) (j0 x1 x6z ((x6).set ((RowKit.wrap64 (Int.tdiv (rdI x14 x16) 8))).toNat (Go.bits .or .u8 (rdI x6 (RowKit.wrap64 (Int.tdiv (rdI x14 x16) 8))) (shlI .u8 1 (Int.tmod (rdI x14 x16) 8)))) x14z x14 x15 (RowKit.wrap64 (x16 + 1))) (none)) (none)) (none)) (none)) (none))) (none)) (none)) (ret (x6z, x6, true))
def impl_BitsOf.l0 : Nat → Int → Bool → (List Int) → Bool → (List Int) → Int → Int → Option (Bool × (List Int) × Bool)
  | 0, _, _, _, _, _, _, _ => none
  | k + 1, x1, x6z, x6, x14z, x14, x15, x16 => impl_BitsOf.l0b some (impl_BitsOf.l0 k) k x1 x6z x6 x14z x14 x15 x16
def impl_BitsOf.f : Nat → Bool → (List Int) → Int → Option (Bool × (List Int) × Bool)
  | 0, _, _, _ => none
  | k + 1, a0z, a0, a1 => impl_BitsOf.b some (impl_BitsOf.l0 k) k a0z a0 a1
def impl_BitsOf.enc (r : Bool × (List Int) × Bool) : Res := ⟨[.vals false [((.nums 5 .u8 r.1 r.2.1), true)], .vals false [((.bool r.2.2), true)]], []⟩
def impl_BitsOf.ans (k : Nat) : List Arg → Ans
  | [.v (.nums 3 .i64 a0z a0), .v (.int .i64 a1)] => ⟨impl_BitsOf.f k a0z a0 a1, impl_BitsOf.enc⟩
  | _ => Ans.no
def impl_BitsOf.Cs (k : Nat) : CallSem := tab [(79, impl_within.ans k), (154, impl_BitsNew.ans k)]
def impl_BitsOf.cuts : List (Nat × Keep) := [(122, ⟨[(1, some []), (6, none), (14, some []), (15, some []), (16, some [])], []⟩)]
noncomputable def impl_BitsOf.K0 : List Fr := framesAt [true, true, true, false, true, false] (bodyOf Try.f94 impl_BitsOf.cuts) []
def impl_BitsOf.N0 (x1 : Int) (x6z : Bool) (x6 : List Int) (x14z : Bool) (x14 : List Int) (x15 : Int) (x16 : Int) : St := stOf 37 37 2 [(1, .val (V.s (.int .i64 x1))), (6, .val ⟨(.nums 5 .u8 x6z x6), [.l 6 0], true, some (.l 6 0)⟩), (14, .val ⟨(.nums 3 .i64 x14z x14), [], false, none⟩), (15, .val (V.s (.int .i64 x15))), (16, .val (V.s (.int .i64 x16)))] []
theorem impl_BitsOf.s (k : Nat) (a0z : Bool) (a0 : List Int) (a1 : Int) : answer Try.prog impl_BitsOf.Cs 100000 impl_BitsOf.cuts [] Try.f94 (k + 1) [.v (.nums 3 .i64 a0z a0), .v (.int .i64 a1)] = impl_BitsOf.b (fun r => some (impl_BitsOf.enc r)) (fun x1 x6z x6 x14z x14 x15 x16 => rounds Try.prog impl_BitsOf.Cs (finish Try.prog [] Try.f94 [.v (.nums 3 .i64 a0z a0), .v (.int .i64 a1)]) 100000 k impl_BitsOf.K0 (impl_BitsOf.N0 x1 x6z x6 x14z x14 x15 x16)) k a0z a0 a1 := by kernel_rfl
theorem impl_BitsOf.s0 (k : Nat) (G : List Fr → St → Option Res) (a0z : Bool) (a0 : List Int) (a1 : Int) (yx1 : Int) (yx6z : Bool) (yx6 : List Int) (yx14z : Bool) (yx14 : List Int) (yx15 : Int) (yx16 : Int) : resume Try.prog (impl_BitsOf.Cs k) G (finish Try.prog [] Try.f94 [.v (.nums 3 .i64 a0z a0), .v (.int .i64 a1)]) 100000 impl_BitsOf.K0 (impl_BitsOf.N0 yx1 yx6z yx6 yx14z yx14 yx15 yx16) = impl_BitsOf.l0b (fun r => some (impl_BitsOf.enc r)) (fun x1 x6z x6 x14z x14 x15 x16 => G impl_BitsOf.K0 (impl_BitsOf.N0 x1 x6z x6 x14z x14 x15 x16)) k yx1 yx6z yx6 yx14z yx14 yx15 yx16 := by kernel_rfl
theorem impl_BitsOf.b_nat {R R' : Type} (e : R → R') (ret : Bool × (List Int) × Bool → Option R) (j0 : Int → Bool → (List Int) → Bool → (List Int) → Int → Int → Option R) (k : Nat) (a0z : Bool) (a0 : List Int) (a1 : Int) : impl_BitsOf.b (fun r => (ret r).map e) (fun x1 x6z x6 x14z x14 x15 x16 => (j0 x1 x6z x6 x14z x14 x15 x16).map e) k a0z a0 a1 = (impl_BitsOf.b ret j0 k a0z a0 a1).map e := by
  unfold impl_BitsOf.b
  repeat' first | with_reducible refine nat_cond ?_ ?_ | with_reducible refine nat_bind fun _ => ?_ | rfl
theorem impl_BitsOf.l0b_nat {R R' : Type} (e : R → R') (ret : Bool × (List Int) × Bool → Option R) (j0 : Int → Bool → (List Int) → Bool → (List Int) → Int → Int → Option R) (k : Nat) (x1 : Int) (x6z : Bool) (x6 : List Int) (x14z : Bool) (x14 : List Int) (x15 : Int) (x16 : Int) : impl_BitsOf.l0b (fun r => (ret r).map e) (fun x1 x6z x6 x14z x14 x15 x16 => (j0 x1 x6z x6 x14z x14 x15 x16).map e) k x1 x6z x6 x14z x14 x15 x16 = (impl_BitsOf.l0b ret j0 k x1 x6z x6 x14z x14 x15 x16).map e := by
  unfold impl_BitsOf.l0b
  repeat' first | with_reducible refine nat_cond ?_ ?_ | with_reducible refine nat_bind fun _ => ?_ | rfl
theorem impl_BitsOf.rounds_eq (a0z : Bool) (a0 : List Int) (a1 : Int) : ∀ k, (∀ (x1 : Int) (x6z : Bool) (x6 : List Int) (x14z : Bool) (x14 : List Int) (x15 : Int) (x16 : Int), rounds Try.prog impl_BitsOf.Cs (finish Try.prog [] Try.f94 [.v (.nums 3 .i64 a0z a0), .v (.int .i64 a1)]) 100000 k impl_BitsOf.K0 (impl_BitsOf.N0 x1 x6z x6 x14z x14 x15 x16) = (impl_BitsOf.l0 k x1 x6z x6 x14z x14 x15 x16).map impl_BitsOf.enc)
  | 0 => fun _ _ _ _ _ _ _ => rfl
  | k + 1 => by
    have ih := impl_BitsOf.rounds_eq a0z a0 a1 k
    refine fun _ _ _ _ _ _ _ => ?_
    · refine (impl_BitsOf.s0 k _ a0z a0 a1 _ _ _ _ _ _ _).trans (Eq.trans ?_ (impl_BitsOf.l0b_nat impl_BitsOf.enc some (impl_BitsOf.l0 k) k _ _ _ _ _ _ _))
      simp only [ih, Option.map_some]
theorem impl_BitsOf.eq (k : Nat) (a0z : Bool) (a0 : List Int) (a1 : Int) : answer Try.prog impl_BitsOf.Cs 100000 impl_BitsOf.cuts [] Try.f94 (k + 1) [.v (.nums 3 .i64 a0z a0), .v (.int .i64 a1)] = (impl_BitsOf.f (k + 1) a0z a0 a1).map impl_BitsOf.enc := by
  have ih := impl_BitsOf.rounds_eq a0z a0 a1 k
  refine (impl_BitsOf.s k a0z a0 a1).trans (Eq.trans ?_ (impl_BitsOf.b_nat impl_BitsOf.enc some (impl_BitsOf.l0 k) k a0z a0 a1))
  simp only [ih, Option.map_some]
theorem impl_BitsOf.sound (k : Nat) : SoundF Try.prog 94 (fun a => (impl_BitsOf.ans k a).val) := by
  refine sound_plain (fun args res h => ?_) (fun t n => rfl)
  unfold impl_BitsOf.ans at h
  dsimp only at h
  split at h
  · cases k with
    | zero => cases h
    | succ k =>
      unfold Ans.val at h
      rw [← impl_BitsOf.eq] at h
      exact answer_sound mixed Try.func94 _ _ _ (k + 1) (fun j _ => tab_sound (tab_cons (impl_within.sound j) (tab_cons (impl_BitsNew.sound j) (tab_nil)))) _ _ h
  · exact (Ans.no_val h).elim

/-! loop.example/g00790/impl.whoOf -/
def impl_whoOf.b {R : Type} (ret : Bool × List Int → Option R) (j0 : Bool → Bool → (List T) → Int → Int → Bool → (List Int) → Bool → (List Int) → Bool → (List T) → Int → Int → Bool → (List Int) → Bool → (List Int) → Bool → (List T) → (List Int) → Int → Int → Bool → (List T) → Option R) (k : Nat) (a0_0z : Bool) (a0_0 : List T) (a1_0_0 : Bool) (a1_1_0z : Bool) (a1_1_0 : List T) (a1_2_0 : Int) (a1_2_1 : Int) (a1_2_2z : Bool) (a1_2_2 : List Int) (a1_2_3z : Bool) (a1_2_3 : List Int) (a1_2_4z : Bool) (a1_2_4 : List T) (a1_4_0 : Int) (a1_4_1 : Int) (a1_4_2z : Bool) (a1_4_2 : List Int) (a1_4_3z : Bool) (a1_4_3 : List Int) (a1_4_4z : Bool) (a1_4_4 : List T) : Option R :=
  (impl_TableOk.f k a0_0z a0_0).bind fun t0 => cond (!t0) (ret (true, ([] : List Int))) (j0 a1_0_0 a1_1_0z a1_1_0 a1_2_0 a1_2_1 a1_2_2z a1_2_2 a1_2_3z a1_2_3 a1_2_4z a1_2_4 a1_4_0 a1_4_1 a1_4_2z a1_4_2 a1_4_3z a1_4_3 a1_4_4z a1_4_4 ([] : List Int) ((a0_0).length : Int) 0 a0_0z a0_0)
def impl_whoOf.l0b {R : Type} (ret : Bool × List Int → Option R) (j0 : Bool → Bool → (List T) → Int → Int → Bool → (List Int) → Bool → (List Int) → Bool → (List T) → Int → Int → Bool → (List Int) → Bool → (List Int) → Bool → (List T) → (List Int) → Int → Int → Bool → (List T) → Option R) (k : Nat) (x1_0_0 : Bool) (x1_1_0z : Bool) (x1_1_0 : List T) (x1_2_0 : Int) (x1_2_1 : Int) (x1_2_2z : Bool) (x1_2_2 : List Int) (x1_2_3z : Bool) (x1_2_3 : List Int) (x1_2_4z : Bool) (x1_2_4 : List T) (x1_4_0 : Int) (x1_4_1 : Int) (x1_4_2z : Bool) (x1_4_2 : List Int) (x1_4_3z : Bool) (x1_4_3 : List Int) (x1_4_4z : Bool) (x1_4_4 : List T) (x5 : List Int) (x15 : Int) (x16 : Int) (c2_0z : Bool) (c2_0 : List T) : Option R :=
  cond (decide (x16 < x15)) ((impl_Blame_2.f k x16 x1_0_0 x1_1_0z x1_1_0 x1_2_0 x1_2_1 x1_2_2z x1_2_2 x1_2_3z x1_2_3 x1_2_4z x1_2_4 x1_4_0 x1_4_1 x1_4_2z x1_4_2 x1_4_3z x1_4_3 x1_4_4z x1_4_4).bind fun t0 => cond t0 (cond (decide ((x5).length + 1 < 17592186044416)) (j0 x1_0_0 x1_1_0z x1_1_0 x1_2_0 x1_2_1 x1_2_2z x1_2_2 x1_2_3z x1_2_3 x1_2_4z x1_2_4 x1_4_0 x1_4_1 x1_4_2z x1_4_2 x1_4_3z x1_4_3 x1_4_4z x1_4_4 (x5 ++ ([x16] : List Int)) x15 (RowKit.wrap64 (x16 + 1)) c2_0z c2_0) (none)) (j0 x1_0_0 x1_1_0z x1_1_0 x1_2_0 x1_2_1 x1_2_2z x1_2_2 x1_2_3z x1_2_3 x1_2_4z x1_2_4 x1_4_0 x1_4_1 x1_4_2z x1_4_2 x1_4_3z x1_4_3 x1_4_4z x1_4_4 x5 x15 (RowKit.wrap64 (x16 + 1)) c2_0z c2_0)) ((impl_BitsOf.f k false x5 ((c2_0).length : Int)).bind fun t0 => ret (t0.1, t0.2.1))
def impl_whoOf.l0 : Nat → Bool → Bool → (List T) → Int → Int → Bool → (List Int) → Bool → (List Int) → Bool → (List T) → Int → Int → Bool → (List Int) → Bool → (List Int) → Bool → (List T) → (List Int) → Int → Int → Bool → (List T) → Option (Bool × List Int)
  | 0, _, _, _, _, _, _, _, _, _, _, _, _, _, _, _, _, _, _, _, _, _, _, _, _ => none
  | k + 1, x1_0_0, x1_1_0z, x1_1_0, x1_2_0, x1_2_1, x1_2_2z, x1_2_2, x1_2_3z, x1_2_3, x1_2_4z, x1_2_4, x1_4_0, x1_4_1, x1_4_2z, x1_4_2, x1_4_3z, x1_4_3, x1_4_4z, x1_4_4, x5, x15, x16, c2_0z, c2_0 => impl_whoOf.l0b some (impl_whoOf.l0 k) k x1_0_0 x1_1_0z x1_1_0 x1_2_0 x1_2_1 x1_2_2z x1_2_2 x1_2_3z x1_2_3 x1_2_4z x1_2_4 x1_4_0 x1_4_1 x1_4_2z x1_4_2 x1_4_3z x1_4_3 x1_4_4z x1_4_4 x5 x15 x16 c2_0z c2_0
def impl_whoOf.f : Nat → Bool → (List T) → Bool → Bool → (List T) → Int → Int → Bool → (List Int) → Bool → (List Int) → Bool → (List T) → Int → Int → Bool → (List Int) → Bool → (List Int) → Bool → (List T) → Option (Bool × List Int)
  | 0, _, _, _, _, _, _, _, _, _, _, _, _, _, _, _, _, _, _, _, _, _ => none
  | k + 1, a0_0z, a0_0, a1_0_0, a1_1_0z, a1_1_0, a1_2_0, a1_2_1, a1_2_2z, a1_2_2, a1_2_3z, a1_2_3, a1_2_4z, a1_2_4, a1_4_0, a1_4_1, a1_4_2z, a1_4_2, a1_4_3z, a1_4_3, a1_4_4z, a1_4_4 => impl_whoOf.b some (impl_whoOf.l0 k) k a0_0z a0_0 a1_0_0 a1_1_0z a1_1_0 a1_2_0 a1_2_1 a1_2_2z a1_2_2 a1_2_3z a1_2_3 a1_2_4z a1_2_4 a1_4_0 a1_4_1 a1_4_2z a1_4_2 a1_4_3z a1_4_3 a1_4_4z a1_4_4
def impl_whoOf.enc (r : Bool × List Int) : Res := ⟨[.vals false [((.nums 5 .u8 r.1 r.2), true)]], []⟩
def impl_whoOf.ans (k : Nat) : List Arg → Ans
  | [.v (.agg [(.sl 44 a0_0z a0_0)]), .v (.fn 119 [(.ptr [(.bool a1_0_0)]), (.ptr [(.sl 44 a1_1_0z a1_1_0)]), (.ptr [(.int .i64 a1_2_0), (.int .i64 a1_2_1), (.nums 5 .u8 a1_2_2z a1_2_2), (.nums 5 .u8 a1_2_3z a1_2_3), (.sl 22 a1_2_4z a1_2_4)]), (.ptr [(.fn 118 [])]), (.ptr [(.int .i64 a1_4_0), (.int .i64 a1_4_1), (.nums 5 .u8 a1_4_2z a1_4_2), (.nums 5 .u8 a1_4_3z a1_4_3), (.sl 22 a1_4_4z a1_4_4)])])] => ⟨impl_whoOf.f k a0_0z a0_0 a1_0_0 a1_1_0z a1_1_0 a1_2_0 a1_2_1 a1_2_2z a1_2_2 a1_2_3z a1_2_3 a1_2_4z a1_2_4 a1_4_0 a1_4_1 a1_4_2z a1_4_2 a1_4_3z a1_4_3 a1_4_4z a1_4_4, impl_whoOf.enc⟩
  | _ => Ans.no
def impl_whoOf.Cs (k : Nat) : CallSem := tab [(78, impl_TableOk.ans k), (119, impl_Blame_2.ans k), (94, impl_BitsOf.ans k)]
def impl_whoOf.cuts : List (Nat × Keep) := [(122, ⟨[(1, some []), (2, some []), (5, none), (15, some []), (16, some [])], [(2, [some []])]⟩)]
noncomputable def impl_whoOf.K0 : List Fr := framesAt [true, true, true, false, true, false] (bodyOf Try.f108 impl_whoOf.cuts) []
def impl_whoOf.N0 (x1_0_0 : Bool) (x1_1_0z : Bool) (x1_1_0 : List T) (x1_2_0 : Int) (x1_2_1 : Int) (x1_2_2z : Bool) (x1_2_2 : List Int) (x1_2_3z : Bool) (x1_2_3 : List Int) (x1_2_4z : Bool) (x1_2_4 : List T) (x1_4_0 : Int) (x1_4_1 : Int) (x1_4_2z : Bool) (x1_4_2 : List Int) (x1_4_3z : Bool) (x1_4_3 : List Int) (x1_4_4z : Bool) (x1_4_4 : List T) (x5 : List Int) (x15 : Int) (x16 : Int) (c2_0z : Bool) (c2_0 : List T) : St := stOf 36 36 2 [(1, .val ⟨(.fn 119 [(.ptr [(.bool x1_0_0)]), (.ptr [(.sl 44 x1_1_0z x1_1_0)]), (.ptr [(.int .i64 x1_2_0), (.int .i64 x1_2_1), (.nums 5 .u8 x1_2_2z x1_2_2), (.nums 5 .u8 x1_2_3z x1_2_3), (.sl 22 x1_2_4z x1_2_4)]), (.ptr [(.fn 118 [])]), (.ptr [(.int .i64 x1_4_0), (.int .i64 x1_4_1), (.nums 5 .u8 x1_4_2z x1_4_2), (.nums 5 .u8 x1_4_3z x1_4_3), (.sl 22 x1_4_4z x1_4_4)])]), [], false, none⟩), (2, .bp 2 0), (5, .val ⟨(.nums 3 .i64 false x5), [.l 5 0], true, some (.l 5 0)⟩), (15, .val (V.s (.int .i64 x15))), (16, .val (V.s (.int .i64 x16)))] [(2, .cells [⟨(.sl 44 c2_0z c2_0), [], false, none⟩])]
theorem impl_whoOf.s (k : Nat) (a0_0z : Bool) (a0_0 : List T) (a1_0_0 : Bool) (a1_1_0z : Bool) (a1_1_0 : List T) (a1_2_0 : Int) (a1_2_1 : Int) (a1_2_2z : Bool) (a1_2_2 : List Int) (a1_2_3z : Bool) (a1_2_3 : List Int) (a1_2_4z : Bool) (a1_2_4 : List T) (a1_4_0 : Int) (a1_4_1 : Int) (a1_4_2z : Bool) (a1_4_2 : List Int) (a1_4_3z : Bool) (a1_4_3 : List Int) (a1_4_4z : Bool) (a1_4_4 : List T) : answer Try.prog impl_whoOf.Cs 100000 impl_whoOf.cuts [] Try.f108 (k + 1) [.v (.agg [(.sl 44 a0_0z a0_0)]), .v (.fn 119 [(.ptr [(.bool a1_0_0)]), (.ptr [(.sl 44 a1_1_0z a1_1_0)]), (.ptr [(.int .i64 a1_2_0), (.int .i64 a1_2_1), (.nums 5 .u8 a1_2_2z a1_2_2), (.nums 5 .u8 a1_2_3z a1_2_3), (.sl 22 a1_2_4z a1_2_4)]), (.ptr [(.fn 118 [])]), (.ptr [(.int .i64 a1_4_0), (.int .i64 a1_4_1), (.nums 5 .u8 a1_4_2z a1_4_2), (.nums 5 .u8 a1_4_3z a1_4_3), (.sl 22 a1_4_4z a1_4_4)])])] = impl_whoOf.b (fun r => some (impl_whoOf.enc r)) (fun x1_0_0 x1_1_0z x1_1_0 x1_2_0 x1_2_1 x1_2_2z x1_2_2 x1_2_3z x1_2_3 x1_2_4z x1_2_4 x1_4_0 x1_4_1 x1_4_2z x1_4_2 x1_4_3z x1_4_3 x1_4_4z x1_4_4 x5 x15 x16 c2_0z c2_0 => rounds Try.prog impl_whoOf.Cs (finish Try.prog [] Try.f108 [.v (.agg [(.sl 44 a0_0z a0_0)]), .v (.fn 119 [(.ptr [(.bool a1_0_0)]), (.ptr [(.sl 44 a1_1_0z a1_1_0)]), (.ptr [(.int .i64 a1_2_0), (.int .i64 a1_2_1), (.nums 5 .u8 a1_2_2z a1_2_2), (.nums 5 .u8 a1_2_3z a1_2_3), (.sl 22 a1_2_4z a1_2_4)]), (.ptr [(.fn 118 [])]), (.ptr [(.int .i64 a1_4_0), (.int .i64 a1_4_1), (.nums 5 .u8 a1_4_2z a1_4_2), (.nums 5 .u8 a1_4_3z a1_4_3), (.sl 22 a1_4_4z a1_4_4)])])]) 100000 k impl_whoOf.K0 (impl_whoOf.N0 x1_0_0 x1_1_0z x1_1_0 x1_2_0 x1_2_1 x1_2_2z x1_2_2 x1_2_3z x1_2_3 x1_2_4z x1_2_4 x1_4_0 x1_4_1 x1_4_2z x1_4_2 x1_4_3z x1_4_3 x1_4_4z x1_4_4 x5 x15 x16 c2_0z c2_0)) k a0_0z a0_0 a1_0_0 a1_1_0z a1_1_0 a1_2_0 a1_2_1 a1_2_2z a1_2_2 a1_2_3z a1_2_3 a1_2_4z a1_2_4 a1_4_0 a1_4_1 a1_4_2z a1_4_2 a1_4_3z a1_4_3 a1_4_4z a1_4_4 := by kernel_rfl
theorem impl_whoOf.s0 (k : Nat) (G : List Fr → St → Option Res) (a0_0z : Bool) (a0_0 : List T) (a1_0_0 : Bool) (a1_1_0z : Bool) (a1_1_0 : List T) (a1_2_0 : Int) (a1_2_1 : Int) (a1_2_2z : Bool) (a1_2_2 : List Int) (a1_2_3z : Bool) (a1_2_3 : List Int) (a1_2_4z : Bool) (a1_2_4 : List T) (a1_4_0 : Int) (a1_4_1 : Int) (a1_4_2z : Bool) (a1_4_2 : List Int) (a1_4_3z : Bool) (a1_4_3 : List Int) (a1_4_4z : Bool) (a1_4_4 : List T) (yx1_0_0 : Bool) (yx1_1_0z : Bool) (yx1_1_0 : List T) (yx1_2_0 : Int) (yx1_2_1 : Int) (yx1_2_2z : Bool) (yx1_2_2 : List Int) (yx1_2_3z : Bool) (yx1_2_3 : List Int) (yx1_2_4z : Bool) (yx1_2_4 : List T) (yx1_4_0 : Int) (yx1_4_1 : Int) (yx1_4_2z : Bool) (yx1_4_2 : List Int) (yx1_4_3z : Bool) (yx1_4_3 : List Int) (yx1_4_4z : Bool) (yx1_4_4 : List T) (yx5 : List Int) (yx15 : Int) (yx16 : Int) (yc2_0z : Bool) (yc2_0 : List T) : resume Try.prog (impl_whoOf.Cs k) G (finish Try.prog [] Try.f108 [.v (.agg [(.sl 44 a0_0z a0_0)]), .v (.fn 119 [(.ptr [(.bool a1_0_0)]), (.ptr [(.sl 44 a1_1_0z a1_1_0)]), (.ptr [(.int .i64 a1_2_0), (.int .i64 a1_2_1), (.nums 5 .u8 a1_2_2z a1_2_2), (.nums 5 .u8 a1_2_3z a1_2_3), (.sl 22 a1_2_4z a1_2_4)]), (.ptr [(.fn 118 [])]), (.ptr [(.int .i64 a1_4_0), (.int .i64 a1_4_1), (.nums 5 .u8 a1_4_2z a1_4_2), (.nums 5 .u8 a1_4_3z a1_4_3), (.sl 22 a1_4_4z a1_4_4)])])]) 100000 impl_whoOf.K0 (impl_whoOf.N0 yx1_0_0 yx1_1_0z yx1_1_0 yx1_2_0 yx1_2_1 yx1_2_2z yx1_2_2 yx1_2_3z yx1_2_3 yx1_2_4z yx1_2_4 yx1_4_0 yx1_4_1 yx1_4_2z yx1_4_2 yx1_4_3z yx1_4_3 yx1_4_4z yx1_4_4 yx5 yx15 yx16 yc2_0z yc2_0) = impl_whoOf.l0b (fun r => some (impl_whoOf.enc r)) (fun x1_0_0 x1_1_0z x1_1_0 x1_2_0 x1_2_1 x1_2_2z x1_2_2 x1_2_3z x1_2_3 x1_2_4z x1_2_4 x1_4_0 x1_4_1 x1_4_2z x1_4_2 x1_4_3z x1_4_3 x1_4_4z x1_4_4 x5 x15 x16 c2_0z c2_0 => G impl_whoOf.K0 (impl_whoOf.N0 x1_0_0 x1_1_0z x1_1_0 x1_2_0 x1_2_1 x1_2_2z x1_2_2 x1_2_3z x1_2_3 x1_2_4z x1_2_4 x1_4_0 x1_4_1 x1_4_2z x1_4_2 x1_4_3z x1_4_3 x1_4_4z x1_4_4 x5 x15 x16 c2_0z c2_0)) k yx1_0_0 yx1_1_0z yx1_1_0 yx1_2_0 yx1_2_1 yx1_2_2z yx1_2_2 yx1_2_3z yx1_2_3 yx1_2_4z yx1_2_4 yx1_4_0 yx1_4_1 yx1_4_2z yx1_4_2 yx1_4_3z yx1_4_3 yx1_4_4z yx1_4_4 yx5 yx15 yx16 yc2_0z yc2_0 := by kernel_rfl
theorem impl_whoOf.b_nat {R R' : Type} (e : R → R') (ret : Bool × List Int → Option R) (j0 : Bool → Bool → (List T) → Int → Int → Bool → (List Int) → Bool → (List Int) → Bool → (List T) → Int → Int → Bool → (List Int) → Bool → (List Int) → Bool → (List T) → (List Int) → Int → Int → Bool → (List T) → Option R) (k : Nat) (a0_0z : Bool) (a0_0 : List T) (a1_0_0 : Bool) (a1_1_0z : Bool) (a1_1_0 : List T) (a1_2_0 : Int) (a1_2_1 : Int) (a1_2_2z : Bool) (a1_2_2 : List Int) (a1_2_3z : Bool) (a1_2_3 : List Int) (a1_2_4z : Bool) (a1_2_4 : List T) (a1_4_0 : Int) (a1_4_1 : Int) (a1_4_2z : Bool) (a1_4_2 : List Int) (a1_4_3z : Bool) (a1_4_3 : List Int) (a1_4_4z : Bool) (a1_4_4 : List T) : impl_whoOf.b (fun r => (ret r).map e) (fun x1_0_0 x1_1_0z x1_1_0 x1_2_0 x1_2_1 x1_2_2z x1_2_2 x1_2_3z x1_2_3 x1_2_4z x1_2_4 x1_4_0 x1_4_1 x1_4_2z x1_4_2 x1_4_3z x1_4_3 x1_4_4z x1_4_4 x5 x15 x16 c2_0z c2_0 => (j0 x1_0_0 x1_1_0z x1_1_0 x1_2_0 x1_2_1 x1_2_2z x1_2_2 x1_2_3z x1_2_3 x1_2_4z x1_2_4 x1_4_0 x1_4_1 x1_4_2z x1_4_2 x1_4_3z x1_4_3 x1_4_4z x1_4_4 x5 x15 x16 c2_0z c2_0).map e) k a0_0z a0_0 a1_0_0 a1_1_0z a1_1_0 a1_2_0 a1_2_1 a1_2_2z a1_2_2 a1_2_3z a1_2_3 a1_2_4z a1_2_4 a1_4_0 a1_4_1 a1_4_2z a1_4_2 a1_4_3z a1_4_3 a1_4_4z a1_4_4 = (impl_whoOf.b ret j0 k a0_0z a0_0 a1_0_0 a1_1_0z a1_1_0 a1_2_0 a1_2_1 a1_2_2z a1_2_2 a1_2_3z a1_2_3 a1_2_4z a1_2_4 a1_4_0 a1_4_1 a1_4_2z a1_4_2 a1_4_3z a1_4_3 a1_4_4z a1_4_4).map e := by
  unfold impl_whoOf.b
  repeat' first | with_reducible refine nat_cond ?_ ?_ | with_reducible refine nat_bind fun _ => ?_ | rfl
theorem impl_whoOf.l0b_nat {R R' : Type} (e : R → R') (ret : Bool × List Int → Option R) (j0 : Bool → Bool → (List T) → Int → Int → Bool → (List Int) → Bool → (List Int) → Bool → (List T) → Int → Int → Bool → (List Int) → Bool → (List Int) → Bool → (List T) → (List Int) → Int → Int → Bool → (List T) → Option R) (k : Nat) (x1_0_0 : Bool) (x1_1_0z : Bool) (x1_1_0 : List T) (x1_2_0 : Int) (x1_2_1 : Int) (x1_2_2z : Bool) (x1_2_2 : List Int) (x1_2_3z : Bool) (x1_2_3 : List Int) (x1_2_4z : Bool) (x1_2_4 : List T) (x1_4_0 : Int) (x1_4_1 : Int) (x1_4_2z : Bool) (x1_4_2 : List Int) (x1_4_3z : Bool) (x1_4_3 : List Int) (x1_4_4z : Bool) (x1_4_4 : List T) (x5 : List Int) (x15 : Int) (x16 : Int) (c2_0z : Bool) (c2_0 : List T) : impl_whoOf.l0b (fun r => (ret r).map e) (fun x1_0_0 x1_1_0z x1_1_0 x1_2_0 x1_2_1 x1_2_2z x1_2_2 x1_2_3z x1_2_3 x1_2_4z x1_2_4 x1_4_0 x1_4_1 x1_4_2z x1_4_2 x1_4_3z x1_4_3 x1_4_4z x1_4_4 x5 x15 x16 c2_0z c2_0 => (j0 x1_0_0 x1_1_0z x1_1_0 x1_2_0 x1_2_1 x1_2_2z x1_2_2 x1_2_3z x1_2_3 x1_2_4z x1_2_4 x1_4_0 x1_4_1 x1_4_2z x1_4_2 x1_4_3z x1_4_3 x1_4_4z x1_4_4 x5 x15 x16 c2_0z c2_0).map e) k x1_0_0 x1_1_0z x1_1_0 x1_2_0 x1_2_1 x1_2_2z x1_2_2 x1_2_3z x1_2_3 x1_2_4z x1_2_4 x1_4_0 x1_4_1 x1_4_2z x1_4_2 x1_4_3z x1_4_3 x1_4_4z x1_4_4 x5 x15 x16 c2_0z c2_0 = (impl_whoOf.l0b ret j0 k x1_0_0 x1_1_0z x1_1_0 x1_2_0 x1_2_1 x1_2_2z x1_2_2 x1_2_3z x1_2_3 x1_2_4z x1_2_4 x1_4_0 x1_4_1 x1_4_2z x1_4_2 x1_4_3z x1_4_3 x1_4_4z x1_4_4 x5 x15 x16 c2_0z c2_0).map e := by
  unfold impl_whoOf.l0b
  repeat' first | with_reducible refine nat_cond ?_ ?_ | with_reducible refine nat_bind fun _ => ?_ | rfl
theorem impl_whoOf.rounds_eq (a0_0z : Bool) (a0_0 : List T) (a1_0_0 : Bool) (a1_1_0z : Bool) (a1_1_0 : List T) (a1_2_0 : Int) (a1_2_1 : Int) (a1_2_2z : Bool) (a1_2_2 : List Int) (a1_2_3z : Bool) (a1_2_3 : List Int) (a1_2_4z : Bool) (a1_2_4 : List T) (a1_4_0 : Int) (a1_4_1 : Int) (a1_4_2z : Bool) (a1_4_2 : List Int) (a1_4_3z : Bool) (a1_4_3 : List Int) (a1_4_4z : Bool) (a1_4_4 : List T) : ∀ k, (∀ (x1_0_0 : Bool) (x1_1_0z : Bool) (x1_1_0 : List T) (x1_2_0 : Int) (x1_2_1 : Int) (x1_2_2z : Bool) (x1_2_2 : List Int) (x1_2_3z : Bool) (x1_2_3 : List Int) (x1_2_4z : Bool) (x1_2_4 : List T) (x1_4_0 : Int) (x1_4_1 : Int) (x1_4_2z : Bool) (x1_4_2 : List Int) (x1_4_3z : Bool) (x1_4_3 : List Int) (x1_4_4z : Bool) (x1_4_4 : List T) (x5 : List Int) (x15 : Int) (x16 : Int) (c2_0z : Bool) (c2_0 : List T), rounds Try.prog impl_whoOf.Cs (finish Try.prog [] Try.f108 [.v (.agg [(.sl 44 a0_0z a0_0)]), .v (.fn 119 [(.ptr [(.bool a1_0_0)]), (.ptr [(.sl 44 a1_1_0z a1_1_0)]), (.ptr [(.int .i64 a1_2_0), (.int .i64 a1_2_1), (.nums 5 .u8 a1_2_2z a1_2_2), (.nums 5 .u8 a1_2_3z a1_2_3), (.sl 22 a1_2_4z a1_2_4)]), (.ptr [(.fn 118 [])]), (.ptr [(.int .i64 a1_4_0), (.int .i64 a1_4_1), (.nums 5 .u8 a1_4_2z a1_4_2), (.nums 5 .u8 a1_4_3z a1_4_3), (.sl 22 a1_4_4z a1_4_4)])])]) 100000 k impl_whoOf.K0 (impl_whoOf.N0 x1_0_0 x1_1_0z x1_1_0 x1_2_0 x1_2_1 x1_2_2z x1_2_2 x1_2_3z x1_2_3 x1_2_4z x1_2_4 x1_4_0 x1_4_1 x1_4_2z x1_4_2 x1_4_3z x1_4_3 x1_4_4z x1_4_4 x5 x15 x16 c2_0z c2_0) = (impl_whoOf.l0 k x1_0_0 x1_1_0z x1_1_0 x1_2_0 x1_2_1 x1_2_2z x1_2_2 x1_2_3z x1_2_3 x1_2_4z x1_2_4 x1_4_0 x1_4_1 x1_4_2z x1_4_2 x1_4_3z x1_4_3 x1_4_4z x1_4_4 x5 x15 x16 c2_0z c2_0).map impl_whoOf.enc)
  | 0 => fun _ _ _ _ _ _ _ _ _ _ _ _ _ _ _ _ _ _ _ _ _ _ _ _ => rfl
  | k + 1 => by
    have ih := impl_whoOf.rounds_eq a0_0z a0_0 a1_0_0 a1_1_0z a1_1_0 a1_2_0 a1_2_1 a1_2_2z a1_2_2 a1_2_3z a1_2_3 a1_2_4z a1_2_4 a1_4_0 a1_4_1 a1_4_2z a1_4_2 a1_4_3z a1_4_3 a1_4_4z a1_4_4 k
    refine fun _ _ _ _ _ _ _ _ _ _ _ _ _ _ _ _ _ _ _ _ _ _ _ _ => ?_
    · refine (impl_whoOf.s0 k _ a0_0z a0_0 a1_0_0 a1_1_0z a1_1_0 a1_2_0 a1_2_1 a1_2_2z a1_2_2 a1_2_3z a1_2_3 a1_2_4z a1_2_4 a1_4_0 a1_4_1 a1_4_2z a1_4_2 a1_4_3z a1_4_3 a1_4_4z a1_4_4 _ _ _ _ _ _ _ _ _ _ _ _ _ _ _ _ _ _ _ _ _ _ _ _).trans (Eq.trans ?_ (impl_whoOf.l0b_nat impl_whoOf.enc some (impl_whoOf.l0 k) k _ _ _ _ _ _ _ _ _ _ _ _ _ _ _ _ _ _ _ _ _ _ _ _))
      simp only [ih, Option.map_some]
theorem impl_whoOf.eq (k : Nat) (a0_0z : Bool) (a0_0 : List T) (a1_0_0 : Bool) (a1_1_0z : Bool) (a1_1_0 : List T) (a1_2_0 : Int) (a1_2_1 : Int) (a1_2_2z : Bool) (a1_2_2 : List Int) (a1_2_3z : Bool) (a1_2_3 : List Int) (a1_2_4z : Bool) (a1_2_4 : List T) (a1_4_0 : Int) (a1_4_1 : Int) (a1_4_2z : Bool) (a1_4_2 : List Int) (a1_4_3z : Bool) (a1_4_3 : List Int) (a1_4_4z : Bool) (a1_4_4 : List T) : answer Try.prog impl_whoOf.Cs 100000 impl_whoOf.cuts [] Try.f108 (k + 1) [.v (.agg [(.sl 44 a0_0z a0_0)]), .v (.fn 119 [(.ptr [(.bool a1_0_0)]), (.ptr [(.sl 44 a1_1_0z a1_1_0)]), (.ptr [(.int .i64 a1_2_0), (.int .i64 a1_2_1), (.nums 5 .u8 a1_2_2z a1_2_2), (.nums 5 .u8 a1_2_3z a1_2_3), (.sl 22 a1_2_4z a1_2_4)]), (.ptr [(.fn 118 [])]), (.ptr [(.int .i64 a1_4_0), (.int .i64 a1_4_1), (.nums 5 .u8 a1_4_2z a1_4_2), (.nums 5 .u8 a1_4_3z a1_4_3), (.sl 22 a1_4_4z a1_4_4)])])] = (impl_whoOf.f (k + 1) a0_0z a0_0 a1_0_0 a1_1_0z a1_1_0 a1_2_0 a1_2_1 a1_2_2z a1_2_2 a1_2_3z a1_2_3 a1_2_4z a1_2_4 a1_4_0 a1_4_1 a1_4_2z a1_4_2 a1_4_3z a1_4_3 a1_4_4z a1_4_4).map impl_whoOf.enc := by
  have ih := impl_whoOf.rounds_eq a0_0z a0_0 a1_0_0 a1_1_0z a1_1_0 a1_2_0 a1_2_1 a1_2_2z a1_2_2 a1_2_3z a1_2_3 a1_2_4z a1_2_4 a1_4_0 a1_4_1 a1_4_2z a1_4_2 a1_4_3z a1_4_3 a1_4_4z a1_4_4 k
  refine (impl_whoOf.s k a0_0z a0_0 a1_0_0 a1_1_0z a1_1_0 a1_2_0 a1_2_1 a1_2_2z a1_2_2 a1_2_3z a1_2_3 a1_2_4z a1_2_4 a1_4_0 a1_4_1 a1_4_2z a1_4_2 a1_4_3z a1_4_3 a1_4_4z a1_4_4).trans (Eq.trans ?_ (impl_whoOf.b_nat impl_whoOf.enc some (impl_whoOf.l0 k) k a0_0z a0_0 a1_0_0 a1_1_0z a1_1_0 a1_2_0 a1_2_1 a1_2_2z a1_2_2 a1_2_3z a1_2_3 a1_2_4z a1_2_4 a1_4_0 a1_4_1 a1_4_2z a1_4_2 a1_4_3z a1_4_3 a1_4_4z a1_4_4))
  simp only [ih, Option.map_some]
theorem impl_whoOf.sound (k : Nat) : SoundF Try.prog 108 (fun a => (impl_whoOf.ans k a).val) := by
  refine sound_plain (fun args res h => ?_) (fun t n => rfl)
  unfold impl_whoOf.ans at h
  dsimp only at h
  split at h
  · cases k with
    | zero => cases h
    | succ k =>
      unfold Ans.val at h
      rw [← impl_whoOf.eq] at h
      exact answer_sound mixed Try.func108 _ _ _ (k + 1) (fun j _ => tab_sound (tab_cons (impl_TableOk.sound j) (tab_cons (impl_Blame_2.sound j) (tab_cons (impl_BitsOf.sound j) (tab_nil))))) _ _ h
  · exact (Ans.no_val h).elim

/-! loop.example/g00790/impl.Blame -/
def impl_Blame.b {R : Type} (ret : Bool × List Int → Option R) (k : Nat) (a0_0z : Bool) (a0_0 : List T) (a1_0 : Int) (a1_1 : Int) (a1_2z : Bool) (a1_2 : List Int) (a1_3z : Bool) (a1_3 : List Int) (a1_4z : Bool) (a1_4 : List T) (a2_0 : Int) (a2_1 : Int) (a2_2z : Bool) (a2_2 : List Int) (a2_3z : Bool) (a2_3 : List Int) (a2_4z : Bool) (a2_4 : List T) : Option R :=
  cond (decide (a1_0 = a2_0)) ((impl_SameBytes.f k a1_2z a1_2 a2_2z a2_2).bind fun t0 => (impl_whoOf.f k a0_0z a0_0 (!t0) a0_0z a0_0 a1_0 a1_1 a1_2z a1_2 a1_3z a1_3 a1_4z a1_4 a2_0 a2_1 a2_2z a2_2 a2_3z a2_3 a2_4z a2_4).bind fun t1 => ret (t1.1, t1.2)) ((impl_whoOf.f k a0_0z a0_0 false a0_0z a0_0 a1_0 a1_1 a1_2z a1_2 a1_3z a1_3 a1_4z a1_4 a2_0 a2_1 a2_2z a2_2 a2_3z a2_3 a2_4z a2_4).bind fun t0 => ret (t0.1, t0.2))
def impl_Blame.f : Nat → Bool → (List T) → Int → Int → Bool → (List Int) → Bool → (List Int) → Bool → (List T) → Int → Int → Bool → (List Int) → Bool → (List Int) → Bool → (List T) → Option (Bool × List Int)
  | 0, _, _, _, _, _, _, _, _, _, _, _, _, _, _, _, _, _, _ => none
  | k + 1, a0_0z, a0_0, a1_0, a1_1, a1_2z, a1_2, a1_3z, a1_3, a1_4z, a1_4, a2_0, a2_1, a2_2z, a2_2, a2_3z, a2_3, a2_4z, a2_4 => impl_Blame.b some k a0_0z a0_0 a1_0 a1_1 a1_2z a1_2 a1_3z a1_3 a1_4z a1_4 a2_0 a2_1 a2_2z a2_2 a2_3z a2_3 a2_4z a2_4
def impl_Blame.enc (r : Bool × List Int) : Res := ⟨[.vals false [((.nums 5 .u8 r.1 r.2), true)]], []⟩
def impl_Blame.ans (k : Nat) : List Arg → Ans
  | [.v (.agg [(.sl 44 a0_0z a0_0)]), .v (.agg [(.int .i64 a1_0), (.int .i64 a1_1), (.nums 5 .u8 a1_2z a1_2), (.nums 5 .u8 a1_3z a1_3), (.sl 22 a1_4z a1_4)]), .v (.agg [(.int .i64 a2_0), (.int .i64 a2_1), (.nums 5 .u8 a2_2z a2_2), (.nums 5 .u8 a2_3z a2_3), (.sl 22 a2_4z a2_4)])] => ⟨impl_Blame.f k a0_0z a0_0 a1_0 a1_1 a1_2z a1_2 a1_3z a1_3 a1_4z a1_4 a2_0 a2_1 a2_2z a2_2 a2_3z a2_3 a2_4z a2_4, impl_Blame.enc⟩
  | _ => Ans.no
def impl_Blame.Cs (k : Nat) : CallSem := tab [(32, impl_SameBytes.ans k), (108, impl_whoOf.ans k)]
def impl_Blame.cuts : List (Nat × Keep) := []
theorem impl_Blame.s (k : Nat) (a0_0z : Bool) (a0_0 : List T) (a1_0 : Int) (a1_1 : Int) (a1_2z : Bool) (a1_2 : List Int) (a1_3z : Bool) (a1_3 : List Int) (a1_4z : Bool) (a1_4 : List T) (a2_0 : Int) (a2_1 : Int) (a2_2z : Bool) (a2_2 : List Int) (a2_3z : Bool) (a2_3 : List Int) (a2_4z : Bool) (a2_4 : List T) : answer Try.prog impl_Blame.Cs 100000 impl_Blame.cuts [] Try.f46 (k + 1) [.v (.agg [(.sl 44 a0_0z a0_0)]), .v (.agg [(.int .i64 a1_0), (.int .i64 a1_1), (.nums 5 .u8 a1_2z a1_2), (.nums 5 .u8 a1_3z a1_3), (.sl 22 a1_4z a1_4)]), .v (.agg [(.int .i64 a2_0), (.int .i64 a2_1), (.nums 5 .u8 a2_2z a2_2), (.nums 5 .u8 a2_3z a2_3), (.sl 22 a2_4z a2_4)])] = impl_Blame.b (fun r => some (impl_Blame.enc r)) k a0_0z a0_0 a1_0 a1_1 a1_2z a1_2 a1_3z a1_3 a1_4z a1_4 a2_0 a2_1 a2_2z a2_2 a2_3z a2_3 a2_4z a2_4 := by kernel_rfl
theorem impl_Blame.b_nat {R R' : Type} (e : R → R') (ret : Bool × List Int → Option R) (k : Nat) (a0_0z : Bool) (a0_0 : List T) (a1_0 : Int) (a1_1 : Int) (a1_2z : Bool) (a1_2 : List Int) (a1_3z : Bool) (a1_3 : List Int) (a1_4z : Bool) (a1_4 : List T) (a2_0 : Int) (a2_1 : Int) (a2_2z : Bool) (a2_2 : List Int) (a2_3z : Bool) (a2_3 : List Int) (a2_4z : Bool) (a2_4 : List T) : impl_Blame.b (fun r => (ret r).map e) k a0_0z a0_0 a1_0 a1_1 a1_2z a1_2 a1_3z a1_3 a1_4z a1_4 a2_0 a2_1 a2_2z a2_2 a2_3z a2_3 a2_4z a2_4 = (impl_Blame.b ret k a0_0z a0_0 a1_0 a1_1 a1_2z a1_2 a1_3z a1_3 a1_4z a1_4 a2_0 a2_1 a2_2z a2_2 a2_3z a2_3 a2_4z a2_4).map e := by
  unfold impl_Blame.b
  repeat' first | with_reducible refine nat_cond ?_ ?_ | with_reducible refine nat_bind fun _ => ?_ | rfl
theorem impl_Blame.eq (k : Nat) (a0_0z : Bool) (a0_0 : List T) (a1_0 : Int) (a1_1 : Int) (a1_2z : Bool) (a1_2 : List Int) (a1_3z : Bool) (a1_3 : List Int) (a1_4z : Bool) (a1_4 : List T) (a2_0 : Int) (a2_1 : Int) (a2_2z : Bool) (a2_2 : List Int) (a2_3z : Bool) (a2_3 : List Int) (a2_4z : Bool) (a2_4 : List T) : answer Try.prog impl_Blame.Cs 100000 impl_Blame.cuts [] Try.f46 (k + 1) [.v (.agg [(.sl 44 a0_0z a0_0)]), .v (.agg [(.int .i64 a1_0), (.int .i64 a1_1), (.nums 5 .u8 a1_2z a1_2), (.nums 5 .u8 a1_3z a1_3), (.sl 22 a1_4z a1_4)]), .v (.agg [(.int .i64 a2_0), (.int .i64 a2_1), (.nums 5 .u8 a2_2z a2_2), (.nums 5 .u8 a2_3z a2_3), (.sl 22 a2_4z a2_4)])] = (impl_Blame.f (k + 1) a0_0z a0_0 a1_0 a1_1 a1_2z a1_2 a1_3z a1_3 a1_4z a1_4 a2_0 a2_1 a2_2z a2_2 a2_3z a2_3 a2_4z a2_4).map impl_Blame.enc := by
  refine (impl_Blame.s k a0_0z a0_0 a1_0 a1_1 a1_2z a1_2 a1_3z a1_3 a1_4z a1_4 a2_0 a2_1 a2_2z a2_2 a2_3z a2_3 a2_4z a2_4).trans (Eq.trans ?_ (impl_Blame.b_nat impl_Blame.enc some k a0_0z a0_0 a1_0 a1_1 a1_2z a1_2 a1_3z a1_3 a1_4z a1_4 a2_0 a2_1 a2_2z a2_2 a2_3z a2_3 a2_4z a2_4))
  simp only [Option.map_some]
theorem impl_Blame.sound (k : Nat) : SoundF Try.prog 46 (fun a => (impl_Blame.ans k a).val) := by
  refine sound_plain (fun args res h => ?_) (fun t n => rfl)
  unfold impl_Blame.ans at h
  dsimp only at h
  split at h
  · cases k with
    | zero => cases h
    | succ k =>
      unfold Ans.val at h
      rw [← impl_Blame.eq] at h
      exact answer_sound mixed Try.func46 _ _ _ (k + 1) (fun j _ => tab_sound (tab_cons (impl_SameBytes.sound j) (tab_cons (impl_whoOf.sound j) (tab_nil)))) _ _ h
  · exact (Ans.no_val h).elim

/-! loop.example/g00790/impl.Twice$1$1$1 -/
def impl_Twice_1_1_1.b {R : Type} (ret : Bool → Option R) (k : Nat) (a0_0 : Int) (a0_1 : Int) (a0_2z : Bool) (a0_2 : List Int) (a0_3 : Int) (a0_4z : Bool) (a0_4 : List Int) (a1_0 : Int) (a1_1 : Int) (a1_2z : Bool) (a1_2 : List Int) (a1_3 : Int) (a1_4z : Bool) (a1_4 : List Int) : Option R :=
  cond (decide (a1_0 = a0_0)) ((impl_SameBytes.f k a1_2z a1_2 a0_2z a0_2).bind fun t0 => ret (!t0)) (ret false)
def impl_Twice_1_1_1.f : Nat → Int → Int → Bool → (List Int) → Int → Bool → (List Int) → Int → Int → Bool → (List Int) → Int → Bool → (List Int) → Option Bool
  | 0, _, _, _, _, _, _, _, _, _, _, _, _, _, _ => none
  | k + 1, a0_0, a0_1, a0_2z, a0_2, a0_3, a0_4z, a0_4, a1_0, a1_1, a1_2z, a1_2, a1_3, a1_4z, a1_4 => impl_Twice_1_1_1.b some k a0_0 a0_1 a0_2z a0_2 a0_3 a0_4z a0_4 a1_0 a1_1 a1_2z a1_2 a1_3 a1_4z a1_4
def impl_Twice_1_1_1.enc (r : Bool) : Res := ⟨[.vals false [((.bool r), true)]], []⟩
def impl_Twice_1_1_1.ans (k : Nat) : List Arg → Ans
  | [.v (.agg [(.int .i64 a0_0), (.int .i64 a0_1), (.nums 5 .u8 a0_2z a0_2), (.int .i64 a0_3), (.nums 5 .u8 a0_4z a0_4)]), .v (.ptr [(.int .i64 a1_0), (.int .i64 a1_1), (.nums 5 .u8 a1_2z a1_2), (.int .i64 a1_3), (.nums 5 .u8 a1_4z a1_4)])] => ⟨impl_Twice_1_1_1.f k a0_0 a0_1 a0_2z a0_2 a0_3 a0_4z a0_4 a1_0 a1_1 a1_2z a1_2 a1_3 a1_4z a1_4, impl_Twice_1_1_1.enc⟩
  | _ => Ans.no
def impl_Twice_1_1_1.Cs (k : Nat) : CallSem := tab [(32, impl_SameBytes.ans k)]
def impl_Twice_1_1_1.cuts : List (Nat × Keep) := []
theorem impl_Twice_1_1_1.s (k : Nat) (a0_0 : Int) (a0_1 : Int) (a0_2z : Bool) (a0_2 : List Int) (a0_3 : Int) (a0_4z : Bool) (a0_4 : List Int) (a1_0 : Int) (a1_1 : Int) (a1_2z : Bool) (a1_2 : List Int) (a1_3 : Int) (a1_4z : Bool) (a1_4 : List Int) : answer Try.prog impl_Twice_1_1_1.Cs 100000 impl_Twice_1_1_1.cuts [] Try.f122 (k + 1) [.v (.agg [(.int .i64 a0_0), (.int .i64 a0_1), (.nums 5 .u8 a0_2z a0_2), (.int .i64 a0_3), (.nums 5 .u8 a0_4z a0_4)]), .v (.ptr [(.int .i64 a1_0), (.int .i64 a1_1), (.nums 5 .u8 a1_2z a1_2), (.int .i64 a1_3), (.nums 5 .u8 a1_4z a1_4)])] = impl_Twice_1_1_1.b (fun r => some (impl_Twice_1_1_1.enc r)) k a0_0 a0_1 a0_2z a0_2 a0_3 a0_4z a0_4 a1_0 a1_1 a1_2z a1_2 a1_3 a1_4z a1_4 := by kernel_rfl
theorem impl_Twice_1_1_1.b_nat {R R' : Type} (e : R → R') (ret : Bool → Option R) (k : Nat) (a0_0 : Int) (a0_1 : Int) (a0_2z : Bool) (a0_2 : List Int) (a0_3 : Int) (a0_4z : Bool) (a0_4 : List Int) (a1_0 : Int) (a1_1 : Int) (a1_2z : Bool) (a1_2 : List Int) (a1_3 : Int) (a1_4z : Bool) (a1_4 : List Int) : impl_Twice_1_1_1.b (fun r => (ret r).map e) k a0_0 a0_1 a0_2z a0_2 a0_3 a0_4z a0_4 a1_0 a1_1 a1_2z a1_2 a1_3 a1_4z a1_4 = (impl_Twice_1_1_1.b ret k a0_0 a0_1 a0_2z a0_2 a0_3 a0_4z a0_4 a1_0 a1_1 a1_2z a1_2 a1_3 a1_4z a1_4).map e := by
  unfold impl_Twice_1_1_1.b
  repeat' first | with_reducible refine nat_cond ?_ ?_ | with_reducible refine nat_bind fun _ => ?_ | rfl
theorem impl_Twice_1_1_1.eq (k : Nat) (a0_0 : Int) (a0_1 : Int) (a0_2z : Bool) (a0_2 : List Int) (a0_3 : Int) (a0_4z : Bool) (a0_4 : List Int) (a1_0 : Int) (a1_1 : Int) (a1_2z : Bool) (a1_2 : List Int) (a1_3 : Int) (a1_4z : Bool) (a1_4 : List Int) : answer Try.prog impl_Twice_1_1_1.Cs 100000 impl_Twice_1_1_1.cuts [] Try.f122 (k + 1) [.v (.agg [(.int .i64 a0_0), (.int .i64 a0_1), (.nums 5 .u8 a0_2z a0_2), (.int .i64 a0_3), (.nums 5 .u8 a0_4z a0_4)]), .v (.ptr [(.int .i64 a1_0), (.int .i64 a1_1), (.nums 5 .u8 a1_2z a1_2), (.int .i64 a1_3), (.nums 5 .u8 a1_4z a1_4)])] = (impl_Twice_1_1_1.f (k + 1) a0_0 a0_1 a0_2z a0_2 a0_3 a0_4z a0_4 a1_0 a1_1 a1_2z a1_2 a1_3 a1_4z a1_4).map impl_Twice_1_1_1.enc := by
  refine (impl_Twice_1_1_1.s k a0_0 a0_1 a0_2z a0_2 a0_3 a0_4z a0_4 a1_0 a1_1 a1_2z a1_2 a1_3 a1_4z a1_4).trans (Eq.trans ?_ (impl_Twice_1_1_1.b_nat impl_Twice_1_1_1.enc some k a0_0 a0_1 a0_2z a0_2 a0_3 a0_4z a0_4 a1_0 a1_1 a1_2z a1_2 a1_3 a1_4z a1_4))
  simp only [Option.map_some]
theorem impl_Twice_1_1_1.sound (k : Nat) : SoundF Try.prog 122 (fun a => (impl_Twice_1_1_1.ans k a).val) := by
  refine sound_plain (fun args res h => ?_) (fun t n => rfl)
  unfold impl_Twice_1_1_1.ans at h
  dsimp only at h
  split at h
  · cases k with
    | zero => cases h
    | succ k =>
      unfold Ans.val at h
      rw [← impl_Twice_1_1_1.eq] at h
      exact answer_sound mixed Try.func122 _ _ _ (k + 1) (fun j _ => tab_sound (tab_cons (impl_SameBytes.sound j) (tab_nil))) _ _ h
  · exact (Ans.no_val h).elim

/-! loop.example/g00790/impl.hasVote$1 -/
def impl_hasVote_1_v2.b {R : Type} (ret : Bool → Option R) (k : Nat) (a0_0 : Int) (a0_1 : Int) (a0_2z : Bool) (a0_2 : List Int) (a0_3 : Int) (a0_4z : Bool) (a0_4 : List Int) (a1_0 : Int) (a2_0_0_0 : Int) (a2_0_0_1 : Int) (a2_0_0_2z : Bool) (a2_0_0_2 : List Int) (a2_0_0_3 : Int) (a2_0_0_4z : Bool) (a2_0_0_4 : List Int) (a3_0z : Bool) (a3_0 : List T) : Option R :=
  cond (decide (a0_3 = a1_0)) ((impl_Twice_1_1_1.f k a0_0 a0_1 a0_2z a0_2 a0_3 a0_4z a0_4 a2_0_0_0 a2_0_0_1 a2_0_0_2z a2_0_0_2 a2_0_0_3 a2_0_0_4z a2_0_0_4).bind fun t0 => cond t0 ((impl_VoteGood.f k a3_0z a3_0 a0_0 a0_1 a0_2z a0_2 a0_3 a0_4z a0_4).bind fun t1 => ret t1) (ret false)) (ret false)
def impl_hasVote_1_v2.f : Nat → Int → Int → Bool → (List Int) → Int → Bool → (List Int) → Int → Int → Int → Bool → (List Int) → Int → Bool → (List Int) → Bool → (List T) → Option Bool
  | 0, _, _, _, _, _, _, _, _, _, _, _, _, _, _, _, _, _ => none
  | k + 1, a0_0, a0_1, a0_2z, a0_2, a0_3, a0_4z, a0_4, a1_0, a2_0_0_0, a2_0_0_1, a2_0_0_2z, a2_0_0_2, a2_0_0_3, a2_0_0_4z, a2_0_0_4, a3_0z, a3_0 => impl_hasVote_1_v2.b some k a0_0 a0_1 a0_2z a0_2 a0_3 a0_4z a0_4 a1_0 a2_0_0_0 a2_0_0_1 a2_0_0_2z a2_0_0_2 a2_0_0_3 a2_0_0_4z a2_0_0_4 a3_0z a3_0
def impl_hasVote_1_v2.enc (r : Bool) : Res := ⟨[.vals false [((.bool r), true)]], []⟩
def impl_hasVote_1_v2.ans (k : Nat) : List Arg → Ans
  | [.v (.agg [(.int .i64 a0_0), (.int .i64 a0_1), (.nums 5 .u8 a0_2z a0_2), (.int .i64 a0_3), (.nums 5 .u8 a0_4z a0_4)]), .v (.ptr [(.int .i64 a1_0)]), .v (.ptr [(.fn 122 [(.ptr [(.int .i64 a2_0_0_0), (.int .i64 a2_0_0_1), (.nums 5 .u8 a2_0_0_2z a2_0_0_2), (.int .i64 a2_0_0_3), (.nums 5 .u8 a2_0_0_4z a2_0_0_4)])])]), .v (.ptr [(.sl 44 a3_0z a3_0)])] => ⟨impl_hasVote_1_v2.f k a0_0 a0_1 a0_2z a0_2 a0_3 a0_4z a0_4 a1_0 a2_0_0_0 a2_0_0_1 a2_0_0_2z a2_0_0_2 a2_0_0_3 a2_0_0_4z a2_0_0_4 a3_0z a3_0, impl_hasVote_1_v2.enc⟩
  | _ => Ans.no
def impl_hasVote_1_v2.Cs (k : Nat) : CallSem := tab [(17, impl_VoteGood.ans k), (122, impl_Twice_1_1_1.ans k)]
def impl_hasVote_1_v2.cuts : List (Nat × Keep) := []
theorem impl_hasVote_1_v2.s (k : Nat) (a0_0 : Int) (a0_1 : Int) (a0_2z : Bool) (a0_2 : List Int) (a0_3 : Int) (a0_4z : Bool) (a0_4 : List Int) (a1_0 : Int) (a2_0_0_0 : Int) (a2_0_0_1 : Int) (a2_0_0_2z : Bool) (a2_0_0_2 : List Int) (a2_0_0_3 : Int) (a2_0_0_4z : Bool) (a2_0_0_4 : List Int) (a3_0z : Bool) (a3_0 : List T) : answer Try.prog impl_hasVote_1_v2.Cs 100000 impl_hasVote_1_v2.cuts [] Try.f169 (k + 1) [.v (.agg [(.int .i64 a0_0), (.int .i64 a0_1), (.nums 5 .u8 a0_2z a0_2), (.int .i64 a0_3), (.nums 5 .u8 a0_4z a0_4)]), .v (.ptr [(.int .i64 a1_0)]), .v (.ptr [(.fn 122 [(.ptr [(.int .i64 a2_0_0_0), (.int .i64 a2_0_0_1), (.nums 5 .u8 a2_0_0_2z a2_0_0_2), (.int .i64 a2_0_0_3), (.nums 5 .u8 a2_0_0_4z a2_0_0_4)])])]), .v (.ptr [(.sl 44 a3_0z a3_0)])] = impl_hasVote_1_v2.b (fun r => some (impl_hasVote_1_v2.enc r)) k a0_0 a0_1 a0_2z a0_2 a0_3 a0_4z a0_4 a1_0 a2_0_0_0 a2_0_0_1 a2_0_0_2z a2_0_0_2 a2_0_0_3 a2_0_0_4z a2_0_0_4 a3_0z a3_0 := by kernel_rfl
theorem impl_hasVote_1_v2.b_nat {R R' : Type} (e : R → R') (ret : Bool → Option R) (k : Nat) (a0_0 : Int) (a0_1 : Int) (a0_2z : Bool) (a0_2 : List Int) (a0_3 : Int) (a0_4z : Bool) (a0_4 : List Int) (a1_0 : Int) (a2_0_0_0 : Int) (a2_0_0_1 : Int) (a2_0_0_2z : Bool) (a2_0_0_2 : List Int) (a2_0_0_3 : Int) (a2_0_0_4z : Bool) (a2_0_0_4 : List Int) (a3_0z : Bool) (a3_0 : List T) : impl_hasVote_1_v2.b (fun r => (ret r).map e) k a0_0 a0_1 a0_2z a0_2 a0_3 a0_4z a0_4 a1_0 a2_0_0_0 a2_0_0_1 a2_0_0_2z a2_0_0_2 a2_0_0_3 a2_0_0_4z a2_0_0_4 a3_0z a3_0 = (impl_hasVote_1_v2.b ret k a0_0 a0_1 a0_2z a0_2 a0_3 a0_4z a0_4 a1_0 a2_0_0_0 a2_0_0_1 a2_0_0_2z a2_0_0_2 a2_0_0_3 a2_0_0_4z a2_0_0_4 a3_0z a3_0).map e := by
  unfold impl_hasVote_1_v2.b
  repeat' first | with_reducible refine nat_cond ?_ ?_ | with_reducible refine nat_bind fun _ => ?_ | rfl
theorem impl_hasVote_1_v2.eq (k : Nat) (a0_0 : Int) (a0_1 : Int) (a0_2z : Bool) (a0_2 : List Int) (a0_3 : Int) (a0_4z : Bool) (a0_4 : List Int) (a1_0 : Int) (a2_0_0_0 : Int) (a2_0_0_1 : Int) (a2_0_0_2z : Bool) (a2_0_0_2 : List Int) (a2_0_0_3 : Int) (a2_0_0_4z : Bool) (a2_0_0_4 : List Int) (a3_0z : Bool) (a3_0 : List T) : answer Try.prog impl_hasVote_1_v2.Cs 100000 impl_hasVote_1_v2.cuts [] Try.f169 (k + 1) [.v (.agg [(.int .i64 a0_0), (.int .i64 a0_1), (.nums 5 .u8 a0_2z a0_2), (.int .i64 a0_3), (.nums 5 .u8 a0_4z a0_4)]), .v (.ptr [(.int .i64 a1_0)]), .v (.ptr [(.fn 122 [(.ptr [(.int .i64 a2_0_0_0), (.int .i64 a2_0_0_1), (.nums 5 .u8 a2_0_0_2z a2_0_0_2), (.int .i64 a2_0_0_3), (.nums 5 .u8 a2_0_0_4z a2_0_0_4)])])]), .v (.ptr [(.sl 44 a3_0z a3_0)])] = (impl_hasVote_1_v2.f (k + 1) a0_0 a0_1 a0_2z a0_2 a0_3 a0_4z a0_4 a1_0 a2_0_0_0 a2_0_0_1 a2_0_0_2z a2_0_0_2 a2_0_0_3 a2_0_0_4z a2_0_0_4 a3_0z a3_0).map impl_hasVote_1_v2.enc := by
  refine (impl_hasVote_1_v2.s k a0_0 a0_1 a0_2z a0_2 a0_3 a0_4z a0_4 a1_0 a2_0_0_0 a2_0_0_1 a2_0_0_2z a2_0_0_2 a2_0_0_3 a2_0_0_4z a2_0_0_4 a3_0z a3_0).trans (Eq.trans ?_ (impl_hasVote_1_v2.b_nat impl_hasVote_1_v2.enc some k a0_0 a0_1 a0_2z a0_2 a0_3 a0_4z a0_4 a1_0 a2_0_0_0 a2_0_0_1 a2_0_0_2z a2_0_0_2 a2_0_0_3 a2_0_0_4z a2_0_0_4 a3_0z a3_0))
  simp only [Option.map_some]
theorem impl_hasVote_1_v2.sound (k : Nat) : SoundF Try.prog 169 (fun a => (impl_hasVote_1_v2.ans k a).val) := by
  refine sound_plain (fun args res h => ?_) (fun t n => rfl)
  unfold impl_hasVote_1_v2.ans at h
  dsimp only at h
  split at h
  · cases k with
    | zero => cases h
    | succ k =>
      unfold Ans.val at h
      rw [← impl_hasVote_1_v2.eq] at h
      exact answer_sound mixed Try.func169 _ _ _ (k + 1) (fun j _ => tab_sound (tab_cons (impl_VoteGood.sound j) (tab_cons (impl_Twice_1_1_1.sound j) (tab_nil)))) _ _ h
  · exact (Ans.no_val h).elim

end Go.Proofs.YtbpcnodmgphinaaG
