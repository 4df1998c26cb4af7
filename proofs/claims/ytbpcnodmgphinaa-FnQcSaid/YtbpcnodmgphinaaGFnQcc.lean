/- What the functions compute, printed by a program of this repo; each is shown to be what the machine of values answers. No condition. -/
import Derived.Test.YtbpcnodmgphinaaProg
import Derived.KernelRfl
import Derived.Test.YtbpcnodmgphinaaGFnQcb
namespace Go.Proofs.YtbpcnodmgphinaaG
open Go Go.Proofs.YtbpcnodmgphinaaRv Go.Proofs
set_option linter.unusedVariables false
set_option linter.unusedSimpArgs false
/-! loop.example/g00790/impl.BuildQc -/
def impl_BuildQc.b {R : Type} (ret : Int × Int × Bool × (List Int) × Bool × (List Int) × Bool × (List T) × Bool → Option R) (j0 : Int → Int → Bool → (List Int) → Bool → (List Int) → Int → Int → Int → Int → Int → Int → Int → Bool → (List T) → Int → Int → Bool → (List Int) → Bool → (List Int) → Bool → (List T) → Option R) (k : Nat) (a0_0 : Int) (a0_1 : Int) (a0_2 : Int) (a0_3 : Int) (a0_4 : Int) (a1_0z : Bool) (a1_0 : List T) (a2 : Int) (a3 : Int) (a4z : Bool) (a4 : List Int) (a5z : Bool) (a5 : List Int) : Option R :=
  (impl_belongs.f k a0_0 a0_1 a0_2 a0_3 a0_4 a1_0z a1_0).bind fun t0 => cond (!t0) (ret (0, 0, true, ([] : List Int), true, ([] : List Int), true, ([] : List T), false)) ((impl_BitsOk.f k a5z a5 a0_0).bind fun t1 => cond (!t1) (ret (0, 0, true, ([] : List Int), true, ([] : List Int), true, ([] : List T), false)) ((impl_copyBytes.f k a4z a4).bind fun t2 => (impl_copyBytes.f k a5z a5).bind fun t3 => (impl_BitsList.f k a5z a5).bind fun t4 => j0 a2 a3 a4z a4 t4.1 t4.2 ((t4.2).length : Int) 0 a0_0 a0_1 a0_2 a0_3 a0_4 a1_0z a1_0 a2 a3 t2.1 t2.2 t3.1 t3.2 true ([] : List T)))
def impl_BuildQc.l0b {R : Type} (ret : Int × Int × Bool × (List Int) × Bool × (List Int) × Bool × (List T) × Bool → Option R) (j0 : Int → Int → Bool → (List Int) → Bool → (List Int) → Int → Int → Int → Int → Int → Int → Int → Bool → (List T) → Int → Int → Bool → (List Int) → Bool → (List Int) → Bool → (List T) → Option R) (k : Nat) (x2 : Int) (x3 : Int) (x4z : Bool) (x4 : List Int) (x39z : Bool) (x39 : List Int) (x40 : Int) (x41 : Int) (c6_0 : Int) (c6_1 : Int) (c6_2 : Int) (c6_3 : Int) (c6_4 : Int) (c7_0z : Bool) (c7_0 : List T) (c14_0 : Int) (c14_1 : Int) (c14_2z : Bool) (c14_2 : List Int) (c14_3z : Bool) (c14_3 : List Int) (c14_4z : Bool) (c14_4 : List T) : Option R :=
  cond (decide (x41 < x40)) (cond (decide ((0 : Int) ≤ x41)) (cond (decide (x41 < ((x39).length : Int))) ((impl_SignVote.f k c7_0z c7_0 x2 x3 x4z x4 (rdI x39 x41)).bind fun t0 => cond (decide ((c14_4).length + 1 < 5864062014805)) (j0 x2 x3 x4z x4 x39z x39 x40 (RowKit.wrap64 (x41 + 1)) c6_0 c6_1 c6_2 c6_3 c6_4 c7_0z c7_0 c14_0 c14_1 c14_2z c14_2 c14_3z c14_3 false (c14_4 ++ ([(.nums 5 .u8 t0.2.2.2.2.2.1 t0.2.2.2.2.2.2.1)] : List T))) (none)) (none)) (none)) ((impl_QcOk.f k c6_0 c6_1 c6_2 c6_3 c6_4 c14_0 c14_1 c14_2z c14_2 c14_3z c14_3 c14_4z c14_4).bind fun t0 => cond (!t0) (ret (0, 0, true, ([] : List Int), true, ([] : List Int), true, ([] : List T), false)) (ret (c14_0, c14_1, c14_2z, c14_2, c14_3z, c14_3, c14_4z, c14_4, true)))
def impl_BuildQc.l0 : Nat → Int → Int → Bool → (List Int) → Bool → (List Int) → Int → Int → Int → Int → Int → Int → Int → Bool → (List T) → Int → Int → Bool → (List Int) → Bool → (List Int) → Bool → (List T) → Option (Int × Int × Bool × (List Int) × Bool × (List Int) × Bool × (List T) × Bool)
  | 0, _, _, _, _, _, _, _, _, _, _, _, _, _, _, _, _, _, _, _, _, _, _, _ => none
  | k + 1, x2, x3, x4z, x4, x39z, x39, x40, x41, c6_0, c6_1, c6_2, c6_3, c6_4, c7_0z, c7_0, c14_0, c14_1, c14_2z, c14_2, c14_3z, c14_3, c14_4z, c14_4 => impl_BuildQc.l0b some (impl_BuildQc.l0 k) k x2 x3 x4z x4 x39z x39 x40 x41 c6_0 c6_1 c6_2 c6_3 c6_4 c7_0z c7_0 c14_0 c14_1 c14_2z c14_2 c14_3z c14_3 c14_4z c14_4
def impl_BuildQc.f : Nat → Int → Int → Int → Int → Int → Bool → (List T) → Int → Int → Bool → (List Int) → Bool → (List Int) → Option (Int × Int × Bool × (List Int) × Bool × (List Int) × Bool × (List T) × Bool)
  | 0, _, _, _, _, _, _, _, _, _, _, _, _, _ => none
  | k + 1, a0_0, a0_1, a0_2, a0_3, a0_4, a1_0z, a1_0, a2, a3, a4z, a4, a5z, a5 => impl_BuildQc.b some (impl_BuildQc.l0 k) k a0_0 a0_1 a0_2 a0_3 a0_4 a1_0z a1_0 a2 a3 a4z a4 a5z a5
def impl_BuildQc.enc (r : Int × Int × Bool × (List Int) × Bool × (List Int) × Bool × (List T) × Bool) : Res := ⟨[.vals true [((.int .i64 r.1), true), ((.int .i64 r.2.1), true), ((.nums 5 .u8 r.2.2.1 r.2.2.2.1), true), ((.nums 5 .u8 r.2.2.2.2.1 r.2.2.2.2.2.1), true), ((.sl 22 r.2.2.2.2.2.2.1 r.2.2.2.2.2.2.2.1), true)], .vals false [((.bool r.2.2.2.2.2.2.2.2), true)]], []⟩
def impl_BuildQc.ans (k : Nat) : List Arg → Ans
  | [.v (.agg [(.int .i64 a0_0), (.int .i64 a0_1), (.int .i64 a0_2), (.int .i64 a0_3), (.int .i64 a0_4)]), .v (.agg [(.sl 44 a1_0z a1_0)]), .v (.int .i64 a2), .v (.int .i64 a3), .v (.nums 5 .u8 a4z a4), .v (.nums 5 .u8 a5z a5)] => ⟨impl_BuildQc.f k a0_0 a0_1 a0_2 a0_3 a0_4 a1_0z a1_0 a2 a3 a4z a4 a5z a5, impl_BuildQc.enc⟩
  | _ => Ans.no
def impl_BuildQc.Cs (k : Nat) : CallSem := tab [(87, impl_belongs.ans k), (88, impl_BitsOk.ans k), (89, impl_BitsList.ans k), (80, impl_copyBytes.ans k), (15, impl_SignVote.ans k), (90, impl_QcOk.ans k)]
def impl_BuildQc.cuts : List (Nat × Keep) := [(122, ⟨[(2, some []), (3, some []), (4, some []), (6, some []), (7, some []), (12, some []), (14, some []), (39, none), (40, some []), (41, some [])], [(6, [some [], some [], some [], some [], some []]), (7, [some []]), (12, [some [], some [], none, none, none]), (14, [some [], some [], none, none, none])]⟩)]
noncomputable def impl_BuildQc.K0 : List Fr := framesAt [true, true, true, false, true, false] (bodyOf Try.f23 impl_BuildQc.cuts) []
def impl_BuildQc.N0 (x2 : Int) (x3 : Int) (x4z : Bool) (x4 : List Int) (x39z : Bool) (x39 : List Int) (x40 : Int) (x41 : Int) (c6_0 : Int) (c6_1 : Int) (c6_2 : Int) (c6_3 : Int) (c6_4 : Int) (c7_0z : Bool) (c7_0 : List T) (c14_0 : Int) (c14_1 : Int) (c14_2z : Bool) (c14_2 : List Int) (c14_3z : Bool) (c14_3 : List Int) (c14_4z : Bool) (c14_4 : List T) : St := stOf 68 68 6 [(2, .val (V.s (.int .i64 x2))), (3, .val (V.s (.int .i64 x3))), (4, .val ⟨(.nums 5 .u8 x4z x4), [], false, none⟩), (6, .bp 6 0), (7, .bp 7 0), (12, .bp 12 0), (14, .bp 14 0), (39, .val ⟨(.nums 3 .i64 x39z x39), [.l 39 0], true, some (.l 39 0)⟩), (40, .val (V.s (.int .i64 x40))), (41, .val (V.s (.int .i64 x41)))] [(6, .cells [V.s (.int .i64 c6_0), V.s (.int .i64 c6_1), V.s (.int .i64 c6_2), V.s (.int .i64 c6_3), V.s (.int .i64 c6_4)]), (7, .cells [⟨(.sl 44 c7_0z c7_0), [], false, none⟩]), (12, .cells [V.s (.int .i64 0), V.s (.int .i64 0), ⟨(.nums 5 .u8 true ([] : List Int)), [.l 12 3], true, some (.l 12 3)⟩, ⟨(.nums 5 .u8 true ([] : List Int)), [.l 12 4], true, some (.l 12 4)⟩, ⟨(.sl 22 true ([] : List T)), [.l 12 5], true, some (.l 12 5)⟩]), (14, .cells [V.s (.int .i64 c14_0), V.s (.int .i64 c14_1), ⟨(.nums 5 .u8 c14_2z c14_2), [.l 14 3], true, some (.l 14 3)⟩, ⟨(.nums 5 .u8 c14_3z c14_3), [.l 14 4], true, some (.l 14 4)⟩, ⟨(.sl 22 c14_4z c14_4), [.l 14 5], true, some (.l 14 5)⟩])]
theorem impl_BuildQc.s (k : Nat) (a0_0 : Int) (a0_1 : Int) (a0_2 : Int) (a0_3 : Int) (a0_4 : Int) (a1_0z : Bool) (a1_0 : List T) (a2 : Int) (a3 : Int) (a4z : Bool) (a4 : List Int) (a5z : Bool) (a5 : List Int) : answer Try.prog impl_BuildQc.Cs 100000 impl_BuildQc.cuts [] Try.f23 (k + 1) [.v (.agg [(.int .i64 a0_0), (.int .i64 a0_1), (.int .i64 a0_2), (.int .i64 a0_3), (.int .i64 a0_4)]), .v (.agg [(.sl 44 a1_0z a1_0)]), .v (.int .i64 a2), .v (.int .i64 a3), .v (.nums 5 .u8 a4z a4), .v (.nums 5 .u8 a5z a5)] = impl_BuildQc.b (fun r => some (impl_BuildQc.enc r)) (fun x2 x3 x4z x4 x39z x39 x40 x41 c6_0 c6_1 c6_2 c6_3 c6_4 c7_0z c7_0 c14_0 c14_1 c14_2z c14_2 c14_3z c14_3 c14_4z c14_4 => rounds Try.prog impl_BuildQc.Cs (finish Try.prog [] Try.f23 [.v (.agg [(.int .i64 a0_0), (.int .i64 a0_1), (.int .i64 a0_2), (.int .i64 a0_3), (.int .i64 a0_4)]), .v (.agg [(.sl 44 a1_0z a1_0)]), .v (.int .i64 a2), .v (.int .i64 a3), .v (.nums 5 .u8 a4z a4), .v (.nums 5 .u8 a5z a5)]) 100000 k impl_BuildQc.K0 (impl_BuildQc.N0 x2 x3 x4z x4 x39z x39 x40 x41 c6_0 c6_1 c6_2 c6_3 c6_4 c7_0z c7_0 c14_0 c14_1 c14_2z c14_2 c14_3z c14_3 c14_4z c14_4)) k a0_0 a0_1 a0_2 a0_3 a0_4 a1_0z a1_0 a2 a3 a4z a4 a5z a5 := by kernel_rfl
theorem impl_BuildQc.s0 (k : Nat) (G : List Fr → St → Option Res) (a0_0 : Int) (a0_1 : Int) (a0_2 : Int) (a0_3 : Int) (a0_4 : Int) (a1_0z : Bool) (a1_0 : List T) (a2 : Int) (a3 : Int) (a4z : Bool) (a4 : List Int) (a5z : Bool) (a5 : List Int) (yx2 : Int) (yx3 : Int) (yx4z : Bool) (yx4 : List Int) (yx39z : Bool) (yx39 : List Int) (yx40 : Int) (yx41 : Int) (yc6_0 : Int) (yc6_1 : Int) (yc6_2 : Int) (yc6_3 : Int) (yc6_4 : Int) (yc7_0z : Bool) (yc7_0 : List T) (yc14_0 : Int) (yc14_1 : Int) (yc14_2z : Bool) (yc14_2 : List Int) (yc14_3z : Bool) (yc14_3 : List Int) (yc14_4z : Bool) (yc14_4 : List T) : resume Try.prog (impl_BuildQc.Cs k) G (finish Try.prog [] Try.f23 [.v (.agg [(.int .i64 a0_0), (.int .i64 a0_1), (.int .i64 a0_2), (.int .i64 a0_3), (.int .i64 a0_4)]), .v (.agg [(.sl 44 a1_0z a1_0)]), .v (.int .i64 a2), .v (.int .i64 a3), .v (.nums 5 .u8 a4z a4), .v (.nums 5 .u8 a5z a5)]) 100000 impl_BuildQc.K0 (impl_BuildQc.N0 yx2 yx3 yx4z yx4 yx39z yx39 yx40 yx41 yc6_0 yc6_1 yc6_2 yc6_3 yc6_4 yc7_0z yc7_0 yc14_0 yc14_1 yc14_2z yc14_2 yc14_3z yc14_3 yc14_4z yc14_4) = impl_BuildQc.l0b (fun r => some (impl_BuildQc.enc r)) (fun x2 x3 x4z x4 x39z x39 x40 x41 c6_0 c6_1 c6_2 c6_3 c6_4 c7_0z c7_0 c14_0 c14_1 c14_2z c14_2 c14_3z c14_3 c14_4z c14_4 => G impl_BuildQc.K0 (impl_BuildQc.N0 x2 x3 x4z x4 x39z x39 x40 x41 c6_0 c6_1 c6_2 c6_3 c6_4 c7_0z c7_0 c14_0 c14_1 c14_2z c14_2 c14_3z c14_3 c14_4z c14_4)) k yx2 yx3 yx4z yx4 yx39z yx39 yx40 yx41 yc6_0 yc6_1 yc6_2 yc6_3 yc6_4 yc7_0z yc7_0 yc14_0 yc14_1 yc14_2z yc14_2 yc14_3z yc14_3 yc14_4z yc14_4 := by kernel_rfl
theorem impl_BuildQc.b_nat {R R' : Type} (e : R → R') (ret : Int × Int × Bool × (List Int) × Bool × (List Int) × Bool × (List T) × Bool → Option R) (j0 : Int → Int → Bool → (List Int) → Bool → (List Int) → Int → Int → Int → Int → Int → Int → Int → Bool → (List T) → Int → Int → Bool → (List Int) → Bool → (List Int) → Bool → (List T) → Option R) (k : Nat) (a0_0 : Int) (a0_1 : Int) (a0_2 : Int) (a0_3 : Int) (a0_4 : Int) (a1_0z : Bool) (a1_0 : List T) (a2 : Int) (a3 : Int) (a4z : Bool) (a4 : List Int) (a5z : Bool) (a5 : List Int) : impl_BuildQc.b (fun r => (ret r).map e) (fun x2 x3 x4z x4 x39z x39 x40 x41 c6_0 c6_1 c6_2 c6_3 c6_4 c7_0z c7_0 c14_0 c14_1 c14_2z c14_2 c14_3z c14_3 c14_4z c14_4 => (j0 x2 x3 x4z x4 x39z x39 x40 x41 c6_0 c6_1 c6_2 c6_3 c6_4 c7_0z c7_0 c14_0 c14_1 c14_2z c14_2 c14_3z c14_3 c14_4z c14_4).map e) k a0_0 a0_1 a0_2 a0_3 a0_4 a1_0z a1_0 a2 a3 a4z a4 a5z a5 = (impl_BuildQc.b ret j0 k a0_0 a0_1 a0_2 a0_3 a0_4 a1_0z a1_0 a2 a3 a4z a4 a5z a5).map e := by
  unfold impl_BuildQc.b
  repeat' first | with_reducible refine nat_cond ?_ ?_ | with_reducible refine nat_bind fun _ => ?_ | rfl
theorem impl_BuildQc.l0b_nat {R R' : Type} (e : R → R') (ret : Int × Int × Bool × (List Int) × Bool × (List Int) × Bool × (List T) × Bool → Option R) (j0 : Int → Int → Bool → (List Int) → Bool → (List Int) → Int → Int → Int → Int → Int → Int → Int → Bool → (List T) → Int → Int → Bool → (List Int) → Bool → (List Int) → Bool → (List T) → Option R) (k : Nat) (x2 : Int) (x3 : Int) (x4z : Bool) (x4 : List Int) (x39z : Bool) (x39 : List Int) (x40 : Int) (x41 : Int) (c6_0 : Int) (c6_1 : Int) (c6_2 : Int) (c6_3 : Int) (c6_4 : Int) (c7_0z : Bool) (c7_0 : List T) (c14_0 : Int) (c14_1 : Int) (c14_2z : Bool) (c14_2 : List Int) (c14_3z : Bool) (c14_3 : List Int) (c14_4z : Bool) (c14_4 : List T) : impl_BuildQc.l0b (fun r => (ret r).map e) (fun x2 x3 x4z x4 x39z x39 x40 x41 c6_0 c6_1 c6_2 c6_3 c6_4 c7_0z c7_0 c14_0 c14_1 c14_2z c14_2 c14_3z c14_3 c14_4z c14_4 => (j0 x2 x3 x4z x4 x39z x39 x40 x41 c6_0 c6_1 c6_2 c6_3 c6_4 c7_0z c7_0 c14_0 c14_1 c14_2z c14_2 c14_3z c14_3 c14_4z c14_4).map e) k x2 x3 x4z x4 x39z x39 x40 x41 c6_0 c6_1 c6_2 c6_3 c6_4 c7_0z c7_0 c14_0 c14_1 c14_2z c14_2 c14_3z c14_3 c14_4z c14_4 = (impl_BuildQc.l0b ret j0 k x2 x3 x4z x4 x39z x39 x40 x41 c6_0 c6_1 c6_2 c6_3 c6_4 c7_0z c7_0 c14_0 c14_1 c14_2z c14_2 c14_3z c14_3 c14_4z c14_4).map e := by
  unfold impl_BuildQc.l0b
  repeat' first | with_reducible refine nat_cond ?_ ?_ | with_reducible refine nat_bind fun _ => ?_ | rfl
theorem impl_BuildQc.rounds_eq (a0_0 : Int) (a0_1 : Int) (a0_2 : Int) (a0_3 : Int) (a0_4 : Int) (a1_0z : Bool) (a1_0 : List T) (a2 : Int) (a3 : Int) (a4z : Bool) (a4 : List Int) (a5z : Bool) (a5 : List Int) : ∀ k, (∀ (x2 : Int) (x3 : Int) (x4z : Bool) (x4 : List Int) (x39z : Bool) (x39 : List Int) (x40 : Int) (x41 : Int) (c6_0 : Int) (c6_1 : Int) (c6_2 : Int) (c6_3 : Int) (c6_4 : Int) (c7_0z : Bool) (c7_0 : List T) (c14_0 : Int) (c14_1 : Int) (c14_2z : Bool) (c14_2 : List Int) (c14_3z : Bool) (c14_3 : List Int) (c14_4z : Bool) (c14_4 : List T), rounds Try.prog impl_BuildQc.Cs (finish Try.prog [] Try.f23 [.v (.agg [(.int .i64 a0_0), (.int .i64 a0_1), (.int .i64 a0_2), (.int .i64 a0_3), (.int .i64 a0_4)]), .v (.agg [(.sl 44 a1_0z a1_0)]), .v (.int .i64 a2), .v (.int .i64 a3), .v (.nums 5 .u8 a4z a4), .v (.nums 5 .u8 a5z a5)]) 100000 k impl_BuildQc.K0 (impl_BuildQc.N0 x2 x3 x4z x4 x39z x39 x40 x41 c6_0 c6_1 c6_2 c6_3 c6_4 c7_0z c7_0 c14_0 c14_1 c14_2z c14_2 c14_3z c14_3 c14_4z c14_4) = (impl_BuildQc.l0 k x2 x3 x4z x4 x39z x39 x40 x41 c6_0 c6_1 c6_2 c6_3 c6_4 c7_0z c7_0 c14_0 c14_1 c14_2z c14_2 c14_3z c14_3 c14_4z c14_4).map impl_BuildQc.enc)
  | 0 => fun _ _ _ _ _ _ _ _ _ _ _ _ _ _ _ _ _ _ _ _ _ _ _ => rfl
  | k + 1 => by
    have ih := impl_BuildQc.rounds_eq a0_0 a0_1 a0_2 a0_3 a0_4 a1_0z a1_0 a2 a3 a4z a4 a5z a5 k
    refine fun _ _ _ _ _ _ _ _ _ _ _ _ _ _ _ _ _ _ _ _ _ _ _ => ?_
    · refine (impl_BuildQc.s0 k _ a0_0 a0_1 a0_2 a0_3 a0_4 a1_0z a1_0 a2 a3 a4z a4 a5z a5 _ _ _ _ _ _ _ _ _ _ _ _ _ _ _ _ _ _ _ _ _ _ _).trans (Eq.trans ?_ (impl_BuildQc.l0b_nat impl_BuildQc.enc some (impl_BuildQc.l0 k) k _ _ _ _ _ _ _ _ _ _ _ _ _ _ _ _ _ _ _ _ _ _ _))
      simp only [ih, Option.map_some]
theorem impl_BuildQc.eq (k : Nat) (a0_0 : Int) (a0_1 : Int) (a0_2 : Int) (a0_3 : Int) (a0_4 : Int) (a1_0z : Bool) (a1_0 : List T) (a2 : Int) (a3 : Int) (a4z : Bool) (a4 : List Int) (a5z : Bool) (a5 : List Int) : answer Try.prog impl_BuildQc.Cs 100000 impl_BuildQc.cuts [] Try.f23 (k + 1) [.v (.agg [(.int .i64 a0_0), (.int .i64 a0_1), (.int .i64 a0_2), (.int .i64 a0_3), (.int .i64 a0_4)]), .v (.agg [(.sl 44 a1_0z a1_0)]), .v (.int .i64 a2), .v (.int .i64 a3), .v (.nums 5 .u8 a4z a4), .v (.nums 5 .u8 a5z a5)] = (impl_BuildQc.f (k + 1) a0_0 a0_1 a0_2 a0_3 a0_4 a1_0z a1_0 a2 a3 a4z a4 a5z a5).map impl_BuildQc.enc := by
  have ih := impl_BuildQc.rounds_eq a0_0 a0_1 a0_2 a0_3 a0_4 a1_0z a1_0 a2 a3 a4z a4 a5z a5 k
  refine (impl_BuildQc.s k a0_0 a0_1 a0_2 a0_3 a0_4 a1_0z a1_0 a2 a3 a4z a4 a5z a5).trans (Eq.trans ?_ (impl_BuildQc.b_nat impl_BuildQc.enc some (impl_BuildQc.l0 k) k a0_0 a0_1 a0_2 a0_3 a0_4 a1_0z a1_0 a2 a3 a4z a4 a5z a5))
  simp only [ih, Option.map_some]
theorem impl_BuildQc.sound (k : Nat) : SoundF Try.prog 23 (fun a => (impl_BuildQc.ans k a).val) := by
  refine sound_plain (fun args res h => ?_) (fun t n => rfl)
  unfold impl_BuildQc.ans at h
  dsimp only at h
  split at h
  · cases k with
    | zero => cases h
    | succ k =>
      unfold Ans.val at h
      rw [← impl_BuildQc.eq] at h
      exact answer_sound mixed Try.func23 _ _ _ (k + 1) (fun j _ => tab_sound (tab_cons (impl_belongs.sound j) (tab_cons (impl_BitsOk.sound j) (tab_cons (impl_BitsList.sound j) (tab_cons (impl_copyBytes.sound j) (tab_cons (impl_SignVote.sound j) (tab_cons (impl_QcOk.sound j) (tab_nil)))))))) _ _ h
  · exact (Ans.no_val h).elim

/-! loop.example/g00790/impl.QcVotes -/
def impl_QcVotes.b {R : Type} (ret : Bool × List T → Option R) (j0 : (List T) → Bool → (List Int) → Int → Int → Int → Int → Bool → (List Int) → Bool → (List Int) → Bool → (List T) → Option R) (k : Nat) (a0_0 : Int) (a0_1 : Int) (a0_2z : Bool) (a0_2 : List Int) (a0_3z : Bool) (a0_3 : List Int) (a0_4z : Bool) (a0_4 : List T) : Option R :=
  (impl_BitsCount.f k a0_3z a0_3).bind fun t0 => cond (!(decide (((a0_4).length : Int) = t0))) (ret (true, ([] : List T))) ((impl_BitsList.f k a0_3z a0_3).bind fun t1 => j0 ([] : List T) t1.1 t1.2 ((t1.2).length : Int) 0 a0_0 a0_1 a0_2z a0_2 a0_3z a0_3 a0_4z a0_4)
def impl_QcVotes.l0b {R : Type} (ret : Bool × List T → Option R) (j0 : (List T) → Bool → (List Int) → Int → Int → Int → Int → Bool → (List Int) → Bool → (List Int) → Bool → (List T) → Option R) (k : Nat) (x3 : List T) (x16z : Bool) (x16 : List Int) (x17 : Int) (x18 : Int) (c1_0 : Int) (c1_1 : Int) (c1_2z : Bool) (c1_2 : List Int) (c1_3z : Bool) (c1_3 : List Int) (c1_4z : Bool) (c1_4 : List T) : Option R :=
  cond (decide (x18 < x17)) (cond (decide ((0 : Int) ≤ x18)) (cond (decide (x18 < ((x16).length : Int))) ((impl_copyBytes.f k c1_2z c1_2).bind fun t0 => cond (decide ((0 : Int) ≤ x18)) (cond (decide (x18 < ((c1_4).length : Int))) ((impl_copyBytes.f k (((((c1_4).getD (x18).toNat .bad).cells.getD 0 .bad)).isNil) (((((c1_4).getD (x18).toNat .bad).cells.getD 0 .bad)).toNums)).bind fun t1 => cond (decide ((x3).length + 1 < 1954687338268)) (j0 (x3 ++ ([(.agg [(.int .i64 c1_0), (.int .i64 c1_1), (.nums 5 .u8 t0.1 t0.2), (.int .i64 (rdI x16 x18)), (.nums 5 .u8 t1.1 t1.2)])] : List T)) x16z x16 x17 (RowKit.wrap64 (x18 + 1)) c1_0 c1_1 c1_2z c1_2 c1_3z c1_3 c1_4z c1_4) (none)) (none)) (none)) (none)) (none)) (ret (false, x3))
def impl_QcVotes.l0 : Nat → (List T) → Bool → (List Int) → Int → Int → Int → Int → Bool → (List Int) → Bool → (List Int) → Bool → (List T) → Option (Bool × List T)
  | 0, _, _, _, _, _, _, _, _, _, _, _, _, _ => none
  | k + 1, x3, x16z, x16, x17, x18, c1_0, c1_1, c1_2z, c1_2, c1_3z, c1_3, c1_4z, c1_4 => impl_QcVotes.l0b some (impl_QcVotes.l0 k) k x3 x16z x16 x17 x18 c1_0 c1_1 c1_2z c1_2 c1_3z c1_3 c1_4z c1_4
def impl_QcVotes.f : Nat → Int → Int → Bool → (List Int) → Bool → (List Int) → Bool → (List T) → Option (Bool × List T)
  | 0, _, _, _, _, _, _, _, _ => none
  | k + 1, a0_0, a0_1, a0_2z, a0_2, a0_3z, a0_3, a0_4z, a0_4 => impl_QcVotes.b some (impl_QcVotes.l0 k) k a0_0 a0_1 a0_2z a0_2 a0_3z a0_3 a0_4z a0_4
def impl_QcVotes.enc (r : Bool × List T) : Res := ⟨[.vals false [((.sl 33 r.1 r.2), true)]], []⟩
def impl_QcVotes.ans (k : Nat) : List Arg → Ans
  | [.v (.agg [(.int .i64 a0_0), (.int .i64 a0_1), (.nums 5 .u8 a0_2z a0_2), (.nums 5 .u8 a0_3z a0_3), (.sl 22 a0_4z a0_4)])] => ⟨impl_QcVotes.f k a0_0 a0_1 a0_2z a0_2 a0_3z a0_3 a0_4z a0_4, impl_QcVotes.enc⟩
  | _ => Ans.no
def impl_QcVotes.Cs (k : Nat) : CallSem := tab [(89, impl_BitsList.ans k), (80, impl_copyBytes.ans k), (25, impl_BitsCount.ans k)]
def impl_QcVotes.cuts : List (Nat × Keep) := [(122, ⟨[(1, some []), (3, none), (16, none), (17, some []), (18, some [])], [(1, [some [], some [], some [], some [], some []])]⟩)]
noncomputable def impl_QcVotes.K0 : List Fr := framesAt [true, true, true, false, true, false] (bodyOf Try.f24 impl_QcVotes.cuts) []
def impl_QcVotes.N0 (x3 : List T) (x16z : Bool) (x16 : List Int) (x17 : Int) (x18 : Int) (c1_0 : Int) (c1_1 : Int) (c1_2z : Bool) (c1_2 : List Int) (c1_3z : Bool) (c1_3 : List Int) (c1_4z : Bool) (c1_4 : List T) : St := stOf 43 43 1 [(1, .bp 1 0), (3, .val ⟨(.sl 33 false x3), [.l 3 0], true, some (.l 3 0)⟩), (16, .val ⟨(.nums 3 .i64 x16z x16), [.l 16 0], true, some (.l 16 0)⟩), (17, .val (V.s (.int .i64 x17))), (18, .val (V.s (.int .i64 x18)))] [(1, .cells [V.s (.int .i64 c1_0), V.s (.int .i64 c1_1), ⟨(.nums 5 .u8 c1_2z c1_2), [], false, none⟩, ⟨(.nums 5 .u8 c1_3z c1_3), [], false, none⟩, ⟨(.sl 22 c1_4z c1_4), [], false, none⟩])]
theorem impl_QcVotes.s (k : Nat) (a0_0 : Int) (a0_1 : Int) (a0_2z : Bool) (a0_2 : List Int) (a0_3z : Bool) (a0_3 : List Int) (a0_4z : Bool) (a0_4 : List T) : answer Try.prog impl_QcVotes.Cs 100000 impl_QcVotes.cuts [] Try.f24 (k + 1) [.v (.agg [(.int .i64 a0_0), (.int .i64 a0_1), (.nums 5 .u8 a0_2z a0_2), (.nums 5 .u8 a0_3z a0_3), (.sl 22 a0_4z a0_4)])] = impl_QcVotes.b (fun r => some (impl_QcVotes.enc r)) (fun x3 x16z x16 x17 x18 c1_0 c1_1 c1_2z c1_2 c1_3z c1_3 c1_4z c1_4 => rounds Try.prog impl_QcVotes.Cs (finish Try.prog [] Try.f24 [.v (.agg [(.int .i64 a0_0), (.int .i64 a0_1), (.nums 5 .u8 a0_2z a0_2), (.nums 5 .u8 a0_3z a0_3), (.sl 22 a0_4z a0_4)])]) 100000 k impl_QcVotes.K0 (impl_QcVotes.N0 x3 x16z x16 x17 x18 c1_0 c1_1 c1_2z c1_2 c1_3z c1_3 c1_4z c1_4)) k a0_0 a0_1 a0_2z a0_2 a0_3z a0_3 a0_4z a0_4 := by kernel_rfl
theorem impl_QcVotes.s0 (k : Nat) (G : List Fr → St → Option Res) (a0_0 : Int) (a0_1 : Int) (a0_2z : Bool) (a0_2 : List Int) (a0_3z : Bool) (a0_3 : List Int) (a0_4z : Bool) (a0_4 : List T) (yx3 : List T) (yx16z : Bool) (yx16 : List Int) (yx17 : Int) (yx18 : Int) (yc1_0 : Int) (yc1_1 : Int) (yc1_2z : Bool) (yc1_2 : List Int) (yc1_3z : Bool) (yc1_3 : List Int) (yc1_4z : Bool) (yc1_4 : List T) : resume Try.prog (impl_QcVotes.Cs k) G (finish Try.prog [] Try.f24 [.v (.agg [(.int .i64 a0_0), (.int .i64 a0_1), (.nums 5 .u8 a0_2z a0_2), (.nums 5 .u8 a0_3z a0_3), (.sl 22 a0_4z a0_4)])]) 100000 impl_QcVotes.K0 (impl_QcVotes.N0 yx3 yx16z yx16 yx17 yx18 yc1_0 yc1_1 yc1_2z yc1_2 yc1_3z yc1_3 yc1_4z yc1_4) = impl_QcVotes.l0b (fun r => some (impl_QcVotes.enc r)) (fun x3 x16z x16 x17 x18 c1_0 c1_1 c1_2z c1_2 c1_3z c1_3 c1_4z c1_4 => G impl_QcVotes.K0 (impl_QcVotes.N0 x3 x16z x16 x17 x18 c1_0 c1_1 c1_2z c1_2 c1_3z c1_3 c1_4z c1_4)) k yx3 yx16z yx16 yx17 yx18 yc1_0 yc1_1 yc1_2z yc1_2 yc1_3z yc1_3 yc1_4z yc1_4 := by kernel_rfl
theorem impl_QcVotes.b_nat {R R' : Type} (e : R → R') (ret : Bool × List T → Option R) (j0 : (List T) → Bool → (List Int) → Int → Int → Int → Int → Bool → (List Int) → Bool → (List Int) → Bool → (List T) → Option R) (k : Nat) (a0_0 : Int) (a0_1 : Int) (a0_2z : Bool) (a0_2 : List Int) (a0_3z : Bool) (a0_3 : List Int) (a0_4z : Bool) (a0_4 : List T) : impl_QcVotes.b (fun r => (ret r).map e) (fun x3 x16z x16 x17 x18 c1_0 c1_1 c1_2z c1_2 c1_3z c1_3 c1_4z c1_4 => (j0 x3 x16z x16 x17 x18 c1_0 c1_1 c1_2z c1_2 c1_3z c1_3 c1_4z c1_4).map e) k a0_0 a0_1 a0_2z a0_2 a0_3z a0_3 a0_4z a0_4 = (impl_QcVotes.b ret j0 k a0_0 a0_1 a0_2z a0_2 a0_3z a0_3 a0_4z a0_4).map e := by
  unfold impl_QcVotes.b
  repeat' first | with_reducible refine nat_cond ?_ ?_ | with_reducible refine nat_bind fun _ => ?_ | rfl
theorem impl_QcVotes.l0b_nat {R R' : Type} (e : R → R') (ret : Bool × List T → Option R) (j0 : (List T) → Bool → (List Int) → Int → Int → Int → Int → Bool → (List Int) → Bool → (List Int) → Bool → (List T) → Option R) (k : Nat) (x3 : List T) (x16z : Bool) (x16 : List Int) (x17 : Int) (x18 : Int) (c1_0 : Int) (c1_1 : Int) (c1_2z : Bool) (c1_2 : List Int) (c1_3z : Bool) (c1_3 : List Int) (c1_4z : Bool) (c1_4 : List T) : impl_QcVotes.l0b (fun r => (ret r).map e) (fun x3 x16z x16 x17 x18 c1_0 c1_1 c1_2z c1_2 c1_3z c1_3 c1_4z c1_4 => (j0 x3 x16z x16 x17 x18 c1_0 c1_1 c1_2z c1_2 c1_3z c1_3 c1_4z c1_4).map e) k x3 x16z x16 x17 x18 c1_0 c1_1 c1_2z c1_2 c1_3z c1_3 c1_4z c1_4 = (impl_QcVotes.l0b ret j0 k x3 x16z x16 x17 x18 c1_0 c1_1 c1_2z c1_2 c1_3z c1_3 c1_4z c1_4).map e := by
  unfold impl_QcVotes.l0b
  repeat' first | with_reducible refine nat_cond ?_ ?_ | with_reducible refine nat_bind fun _ => ?_ | rfl
theorem impl_QcVotes.rounds_eq (a0_0 : Int) (a0_1 : Int) (a0_2z : Bool) (a0_2 : List Int) (a0_3z : Bool) (a0_3 : List Int) (a0_4z : Bool) (a0_4 : List T) : ∀ k, (∀ (x3 : List T) (x16z : Bool) (x16 : List Int) (x17 : Int) (x18 : Int) (c1_0 : Int) (c1_1 : Int) (c1_2z : Bool) (c1_2 : List Int) (c1_3z : Bool) (c1_3 : List Int) (c1_4z : Bool) (c1_4 : List T), rounds Try.prog impl_QcVotes.Cs (finish Try.prog [] Try.f24 [.v (.agg [(.int .i64 a0_0), (.int .i64 a0_1), (.nums 5 .u8 a0_2z a0_2), (.nums 5 .u8 a0_3z a0_3), (.sl 22 a0_4z a0_4)])]) 100000 k impl_QcVotes.K0 (impl_QcVotes.N0 x3 x16z x16 x17 x18 c1_0 c1_1 c1_2z c1_2 c1_3z c1_3 c1_4z c1_4) = (impl_QcVotes.l0 k x3 x16z x16 x17 x18 c1_0 c1_1 c1_2z c1_2 c1_3z c1_3 c1_4z c1_4).map impl_QcVotes.enc)
  | 0 => fun _ _ _ _ _ _ _ _ _ _ _ _ _ => rfl
  | k + 1 => by
    have ih := impl_QcVotes.rounds_eq a0_0 a0_1 a0_2z a0_2 a0_3z a0_3 a0_4z a0_4 k
    refine fun _ _ _ _ _ _ _ _ _ _ _ _ _ => ?_
    · refine (impl_QcVotes.s0 k _ a0_0 a0_1 a0_2z a0_2 a0_3z a0_3 a0_4z a0_4 _ _ _ _ _ _ _ _ _ _ _ _ _).trans (Eq.trans ?_ (impl_QcVotes.l0b_nat impl_QcVotes.enc some (impl_QcVotes.l0 k) k _ _ _ _ _ _ _ _ _ _ _ _ _))
      simp only [ih, Option.map_some]
theorem impl_QcVotes.eq (k : Nat) (a0_0 : Int) (a0_1 : Int) (a0_2z : Bool) (a0_2 : List Int) (a0_3z : Bool) (a0_3 : List Int) (a0_4z : Bool) (a0_4 : List T) : answer Try.prog impl_QcVotes.Cs 100000 impl_QcVotes.cuts [] Try.f24 (k + 1) [.v (.agg [(.int .i64 a0_0), (.int .i64 a0_1), (.nums 5 .u8 a0_2z a0_2), (.nums 5 .u8 a0_3z a0_3), (.sl 22 a0_4z a0_4)])] = (impl_QcVotes.f (k + 1) a0_0 a0_1 a0_2z a0_2 a0_3z a0_3 a0_4z a0_4).map impl_QcVotes.enc := by
  have ih := impl_QcVotes.rounds_eq a0_0 a0_1 a0_2z a0_2 a0_3z a0_3 a0_4z a0_4 k
  refine (impl_QcVotes.s k a0_0 a0_1 a0_2z a0_2 a0_3z a0_3 a0_4z a0_4).trans (Eq.trans ?_ (impl_QcVotes.b_nat impl_QcVotes.enc some (impl_QcVotes.l0 k) k a0_0 a0_1 a0_2z a0_2 a0_3z a0_3 a0_4z a0_4))
  simp only [ih, Option.map_some]
theorem impl_QcVotes.sound (k : Nat) : SoundF Try.prog 24 (fun a => (impl_QcVotes.ans k a).val) := by
  refine sound_plain (fun args res h => ?_) (fun t n => rfl)
  unfold impl_QcVotes.ans at h
  dsimp only at h
  split at h
  · cases k with
    | zero => cases h
    | succ k =>
      unfold Ans.val at h
      rw [← impl_QcVotes.eq] at h
      exact answer_sound mixed Try.func24 _ _ _ (k + 1) (fun j _ => tab_sound (tab_cons (impl_BitsList.sound j) (tab_cons (impl_copyBytes.sound j) (tab_cons (impl_BitsCount.sound j) (tab_nil))))) _ _ h
  · exact (Ans.no_val h).elim

/-! loop.example/g00790/impl.SameBytes -/
def impl_SameBytes.b {R : Type} (ret : Bool → Option R) (k : Nat) (a0z : Bool) (a0 : List Int) (a1z : Bool) (a1 : List Int) : Option R :=
  ret (decide ((strOf a0) = (strOf a1)))
def impl_SameBytes.f : Nat → Bool → (List Int) → Bool → (List Int) → Option Bool
  | 0, _, _, _, _ => none
  | k + 1, a0z, a0, a1z, a1 => impl_SameBytes.b some k a0z a0 a1z a1
def impl_SameBytes.enc (r : Bool) : Res := ⟨[.vals false [((.bool r), true)]], []⟩
def impl_SameBytes.ans (k : Nat) : List Arg → Ans
  | [.v (.nums 5 .u8 a0z a0), .v (.nums 5 .u8 a1z a1)] => ⟨impl_SameBytes.f k a0z a0 a1z a1, impl_SameBytes.enc⟩
  | _ => Ans.no
def impl_SameBytes.Cs (k : Nat) : CallSem := tab []
def impl_SameBytes.cuts : List (Nat × Keep) := []
theorem impl_SameBytes.s (k : Nat) (a0z : Bool) (a0 : List Int) (a1z : Bool) (a1 : List Int) : answer Try.prog impl_SameBytes.Cs 100000 impl_SameBytes.cuts [] Try.f32 (k + 1) [.v (.nums 5 .u8 a0z a0), .v (.nums 5 .u8 a1z a1)] = impl_SameBytes.b (fun r => some (impl_SameBytes.enc r)) k a0z a0 a1z a1 := by kernel_rfl
theorem impl_SameBytes.b_nat {R R' : Type} (e : R → R') (ret : Bool → Option R) (k : Nat) (a0z : Bool) (a0 : List Int) (a1z : Bool) (a1 : List Int) : impl_SameBytes.b (fun r => (ret r).map e) k a0z a0 a1z a1 = (impl_SameBytes.b ret k a0z a0 a1z a1).map e := by
  unfold impl_SameBytes.b
  repeat' first | with_reducible refine nat_cond ?_ ?_ | with_reducible refine nat_bind fun _ => ?_ | rfl
theorem impl_SameBytes.eq (k : Nat) (a0z : Bool) (a0 : List Int) (a1z : Bool) (a1 : List Int) : answer Try.prog impl_SameBytes.Cs 100000 impl_SameBytes.cuts [] Try.f32 (k + 1) [.v (.nums 5 .u8 a0z a0), .v (.nums 5 .u8 a1z a1)] = (impl_SameBytes.f (k + 1) a0z a0 a1z a1).map impl_SameBytes.enc := by
  refine (impl_SameBytes.s k a0z a0 a1z a1).trans (Eq.trans ?_ (impl_SameBytes.b_nat impl_SameBytes.enc some k a0z a0 a1z a1))
  simp only [Option.map_some]
theorem impl_SameBytes.sound (k : Nat) : SoundF Try.prog 32 (fun a => (impl_SameBytes.ans k a).val) := by
  refine sound_plain (fun args res h => ?_) (fun t n => rfl)
  unfold impl_SameBytes.ans at h
  dsimp only at h
  split at h
  · cases k with
    | zero => cases h
    | succ k =>
      unfold Ans.val at h
      rw [← impl_SameBytes.eq] at h
      exact answer_sound mixed Try.func32 _ _ _ (k + 1) (fun j _ => tab_sound (tab_nil)) _ _ h
  · exact (Ans.no_val h).elim

/-! loop.example/g00790/impl.VoteSame -/
def impl_VoteSame.b {R : Type} (ret : Bool → Option R) (k : Nat) (a0_0 : Int) (a0_1 : Int) (a0_2z : Bool) (a0_2 : List Int) (a0_3 : Int) (a0_4z : Bool) (a0_4 : List Int) (a1_0 : Int) (a1_1 : Int) (a1_2z : Bool) (a1_2 : List Int) (a1_3 : Int) (a1_4z : Bool) (a1_4 : List Int) : Option R :=
  cond (decide (a0_0 = a1_0)) (cond (decide (a0_1 = a1_1)) (cond (decide (a0_3 = a1_3)) ((impl_SameBytes.f k a0_2z a0_2 a1_2z a1_2).bind fun t0 => cond t0 ((impl_SameBytes.f k a0_4z a0_4 a1_4z a1_4).bind fun t1 => ret t1) (ret false)) (ret false)) (ret false)) (ret false)
def impl_VoteSame.f : Nat → Int → Int → Bool → (List Int) → Int → Bool → (List Int) → Int → Int → Bool → (List Int) → Int → Bool → (List Int) → Option Bool
  | 0, _, _, _, _, _, _, _, _, _, _, _, _, _, _ => none
  | k + 1, a0_0, a0_1, a0_2z, a0_2, a0_3, a0_4z, a0_4, a1_0, a1_1, a1_2z, a1_2, a1_3, a1_4z, a1_4 => impl_VoteSame.b some k a0_0 a0_1 a0_2z a0_2 a0_3 a0_4z a0_4 a1_0 a1_1 a1_2z a1_2 a1_3 a1_4z a1_4
def impl_VoteSame.enc (r : Bool) : Res := ⟨[.vals false [((.bool r), true)]], []⟩
def impl_VoteSame.ans (k : Nat) : List Arg → Ans
  | [.v (.agg [(.int .i64 a0_0), (.int .i64 a0_1), (.nums 5 .u8 a0_2z a0_2), (.int .i64 a0_3), (.nums 5 .u8 a0_4z a0_4)]), .v (.agg [(.int .i64 a1_0), (.int .i64 a1_1), (.nums 5 .u8 a1_2z a1_2), (.int .i64 a1_3), (.nums 5 .u8 a1_4z a1_4)])] => ⟨impl_VoteSame.f k a0_0 a0_1 a0_2z a0_2 a0_3 a0_4z a0_4 a1_0 a1_1 a1_2z a1_2 a1_3 a1_4z a1_4, impl_VoteSame.enc⟩
  | _ => Ans.no
def impl_VoteSame.Cs (k : Nat) : CallSem := tab [(32, impl_SameBytes.ans k)]
def impl_VoteSame.cuts : List (Nat × Keep) := []
theorem impl_VoteSame.s (k : Nat) (a0_0 : Int) (a0_1 : Int) (a0_2z : Bool) (a0_2 : List Int) (a0_3 : Int) (a0_4z : Bool) (a0_4 : List Int) (a1_0 : Int) (a1_1 : Int) (a1_2z : Bool) (a1_2 : List Int) (a1_3 : Int) (a1_4z : Bool) (a1_4 : List Int) : answer Try.prog impl_VoteSame.Cs 100000 impl_VoteSame.cuts [] Try.f82 (k + 1) [.v (.agg [(.int .i64 a0_0), (.int .i64 a0_1), (.nums 5 .u8 a0_2z a0_2), (.int .i64 a0_3), (.nums 5 .u8 a0_4z a0_4)]), .v (.agg [(.int .i64 a1_0), (.int .i64 a1_1), (.nums 5 .u8 a1_2z a1_2), (.int .i64 a1_3), (.nums 5 .u8 a1_4z a1_4)])] = impl_VoteSame.b (fun r => some (impl_VoteSame.enc r)) k a0_0 a0_1 a0_2z a0_2 a0_3 a0_4z a0_4 a1_0 a1_1 a1_2z a1_2 a1_3 a1_4z a1_4 := by kernel_rfl
theorem impl_VoteSame.b_nat {R R' : Type} (e : R → R') (ret : Bool → Option R) (k : Nat) (a0_0 : Int) (a0_1 : Int) (a0_2z : Bool) (a0_2 : List Int) (a0_3 : Int) (a0_4z : Bool) (a0_4 : List Int) (a1_0 : Int) (a1_1 : Int) (a1_2z : Bool) (a1_2 : List Int) (a1_3 : Int) (a1_4z : Bool) (a1_4 : List Int) : impl_VoteSame.b (fun r => (ret r).map e) k a0_0 a0_1 a0_2z a0_2 a0_3 a0_4z a0_4 a1_0 a1_1 a1_2z a1_2 a1_3 a1_4z a1_4 = (impl_VoteSame.b ret k a0_0 a0_1 a0_2z a0_2 a0_3 a0_4z a0_4 a1_0 a1_1 a1_2z a1_2 a1_3 a1_4z a1_4).map e := by
  unfold impl_VoteSame.b
  repeat' first | with_reducible refine nat_cond ?_ ?_ | with_reducible refine nat_bind fun _ => ?_ | rfl
theorem impl_VoteSame.eq (k : Nat) (a0_0 : Int) (a0_1 : Int) (a0_2z : Bool) (a0_2 : List Int) (a0_3 : Int) (a0_4z : Bool) (a0_4 : List Int) (a1_0 : Int) (a1_1 : Int) (a1_2z : Bool) (a1_2 : List Int) (a1_3 : Int) (a1_4z : Bool) (a1_4 : List Int) : answer Try.prog impl_VoteSame.Cs 100000 impl_VoteSame.cuts [] Try.f82 (k + 1) [.v (.agg [(.int .i64 a0_0), (.int .i64 a0_1), (.nums 5 .u8 a0_2z a0_2), (.int .i64 a0_3), (.nums 5 .u8 a0_4z a0_4)]), .v (.agg [(.int .i64 a1_0), (.int .i64 a1_1), (.nums 5 .u8 a1_2z a1_2), (.int .i64 a1_3), (.nums 5 .u8 a1_4z a1_4)])] = (impl_VoteSame.f (k + 1) a0_0 a0_1 a0_2z a0_2 a0_3 a0_4z a0_4 a1_0 a1_1 a1_2z a1_2 a1_3 a1_4z a1_4).map impl_VoteSame.enc := by
  refine (impl_VoteSame.s k a0_0 a0_1 a0_2z a0_2 a0_3 a0_4z a0_4 a1_0 a1_1 a1_2z a1_2 a1_3 a1_4z a1_4).trans (Eq.trans ?_ (impl_VoteSame.b_nat impl_VoteSame.enc some k a0_0 a0_1 a0_2z a0_2 a0_3 a0_4z a0_4 a1_0 a1_1 a1_2z a1_2 a1_3 a1_4z a1_4))
  simp only [Option.map_some]
theorem impl_VoteSame.sound (k : Nat) : SoundF Try.prog 82 (fun a => (impl_VoteSame.ans k a).val) := by
  refine sound_plain (fun args res h => ?_) (fun t n => rfl)
  unfold impl_VoteSame.ans at h
  dsimp only at h
  split at h
  · cases k with
    | zero => cases h
    | succ k =>
      unfold Ans.val at h
      rw [← impl_VoteSame.eq] at h
      exact answer_sound mixed Try.func82 _ _ _ (k + 1) (fun j _ => tab_sound (tab_cons (impl_SameBytes.sound j) (tab_nil))) _ _ h
  · exact (Ans.no_val h).elim

/-! loop.example/g00790/impl.VoteGood -/
def impl_VoteGood.b {R : Type} (ret : Bool → Option R) (k : Nat) (a0_0z : Bool) (a0_0 : List T) (a1_0 : Int) (a1_1 : Int) (a1_2z : Bool) (a1_2 : List Int) (a1_3 : Int) (a1_4z : Bool) (a1_4 : List Int) : Option R :=
  (impl_SignVote.f k a0_0z a0_0 a1_0 a1_1 a1_2z a1_2 a1_3).bind fun t0 => cond t0.2.2.2.2.2.2.2 ((impl_VoteSame.f k t0.1 t0.2.1 t0.2.2.1 t0.2.2.2.1 t0.2.2.2.2.1 t0.2.2.2.2.2.1 t0.2.2.2.2.2.2.1 a1_0 a1_1 a1_2z a1_2 a1_3 a1_4z a1_4).bind fun t1 => ret t1) (ret false)
def impl_VoteGood.f : Nat → Bool → (List T) → Int → Int → Bool → (List Int) → Int → Bool → (List Int) → Option Bool
  | 0, _, _, _, _, _, _, _, _, _ => none
  | k + 1, a0_0z, a0_0, a1_0, a1_1, a1_2z, a1_2, a1_3, a1_4z, a1_4 => impl_VoteGood.b some k a0_0z a0_0 a1_0 a1_1 a1_2z a1_2 a1_3 a1_4z a1_4
def impl_VoteGood.enc (r : Bool) : Res := ⟨[.vals false [((.bool r), true)]], []⟩
def impl_VoteGood.ans (k : Nat) : List Arg → Ans
  | [.v (.agg [(.sl 44 a0_0z a0_0)]), .v (.agg [(.int .i64 a1_0), (.int .i64 a1_1), (.nums 5 .u8 a1_2z a1_2), (.int .i64 a1_3), (.nums 5 .u8 a1_4z a1_4)])] => ⟨impl_VoteGood.f k a0_0z a0_0 a1_0 a1_1 a1_2z a1_2 a1_3 a1_4z a1_4, impl_VoteGood.enc⟩
  | _ => Ans.no
def impl_VoteGood.Cs (k : Nat) : CallSem := tab [(15, impl_SignVote.ans k), (82, impl_VoteSame.ans k)]
def impl_VoteGood.cuts : List (Nat × Keep) := []
theorem impl_VoteGood.s (k : Nat) (a0_0z : Bool) (a0_0 : List T) (a1_0 : Int) (a1_1 : Int) (a1_2z : Bool) (a1_2 : List Int) (a1_3 : Int) (a1_4z : Bool) (a1_4 : List Int) : answer Try.prog impl_VoteGood.Cs 100000 impl_VoteGood.cuts [] Try.f17 (k + 1) [.v (.agg [(.sl 44 a0_0z a0_0)]), .v (.agg [(.int .i64 a1_0), (.int .i64 a1_1), (.nums 5 .u8 a1_2z a1_2), (.int .i64 a1_3), (.nums 5 .u8 a1_4z a1_4)])] = impl_VoteGood.b (fun r => some (impl_VoteGood.enc r)) k a0_0z a0_0 a1_0 a1_1 a1_2z a1_2 a1_3 a1_4z a1_4 := by kernel_rfl
theorem impl_VoteGood.b_nat {R R' : Type} (e : R → R') (ret : Bool → Option R) (k : Nat) (a0_0z : Bool) (a0_0 : List T) (a1_0 : Int) (a1_1 : Int) (a1_2z : Bool) (a1_2 : List Int) (a1_3 : Int) (a1_4z : Bool) (a1_4 : List Int) : impl_VoteGood.b (fun r => (ret r).map e) k a0_0z a0_0 a1_0 a1_1 a1_2z a1_2 a1_3 a1_4z a1_4 = (impl_VoteGood.b ret k a0_0z a0_0 a1_0 a1_1 a1_2z a1_2 a1_3 a1_4z a1_4).map e := by
  unfold impl_VoteGood.b
  repeat' first | with_reducible refine nat_cond ?_ ?_ | with_reducible refine nat_bind fun _ => ?_ | rfl
theorem impl_VoteGood.eq (k : Nat) (a0_0z : Bool) (a0_0 : List T) (a1_0 : Int) (a1_1 : Int) (a1_2z : Bool) (a1_2 : List Int) (a1_3 : Int) (a1_4z : Bool) (a1_4 : List Int) : answer Try.prog impl_VoteGood.Cs 100000 impl_VoteGood.cuts [] Try.f17 (k + 1) [.v (.agg [(.sl 44 a0_0z a0_0)]), .v (.agg [(.int .i64 a1_0), (.int .i64 a1_1), (.nums 5 .u8 a1_2z a1_2), (.int .i64 a1_3), (.nums 5 .u8 a1_4z a1_4)])] = (impl_VoteGood.f (k + 1) a0_0z a0_0 a1_0 a1_1 a1_2z a1_2 a1_3 a1_4z a1_4).map impl_VoteGood.enc := by
  refine (impl_VoteGood.s k a0_0z a0_0 a1_0 a1_1 a1_2z a1_2 a1_3 a1_4z a1_4).trans (Eq.trans ?_ (impl_VoteGood.b_nat impl_VoteGood.enc some k a0_0z a0_0 a1_0 a1_1 a1_2z a1_2 a1_3 a1_4z a1_4))
  simp only [Option.map_some]
theorem impl_VoteGood.sound (k : Nat) : SoundF Try.prog 17 (fun a => (impl_VoteGood.ans k a).val) := by
  refine sound_plain (fun args res h => ?_) (fun t n => rfl)
  unfold impl_VoteGood.ans at h
  dsimp only at h
  split at h
  · cases k with
    | zero => cases h
    | succ k =>
      unfold Ans.val at h
      rw [← impl_VoteGood.eq] at h
      exact answer_sound mixed Try.func17 _ _ _ (k + 1) (fun j _ => tab_sound (tab_cons (impl_SignVote.sound j) (tab_cons (impl_VoteSame.sound j) (tab_nil)))) _ _ h
  · exact (Ans.no_val h).elim

/-! loop.example/g00790/impl.VoteOk -/
def impl_VoteOk.b {R : Type} (ret : Bool → Option R) (k : Nat) (a0_0 : Int) (a0_1 : Int) (a0_2 : Int) (a0_3 : Int) (a0_4 : Int) (a1_0 : Int) (a1_1 : Int) (a1_2z : Bool) (a1_2 : List Int) (a1_3 : Int) (a1_4z : Bool) (a1_4 : List Int) : Option R :=
  (impl_LimitsOk.f k a0_0 a0_1 a0_2 a0_3 a0_4).bind fun t0 => cond t0 ((impl_isNum.f k a1_0).bind fun t1 => cond t1 ((impl_isNum.f k a1_1).bind fun t2 => cond t2 ((impl_areHashes.f k false ([(.nums 5 .u8 a1_2z a1_2), (.nums 5 .u8 a1_4z a1_4)] : List T)).bind fun t3 => cond t3 ((impl_within.f k a1_3 0 (RowKit.wrap64 (a0_0 - 1))).bind fun t4 => ret t4) (ret false)) (ret false)) (ret false)) (ret false)
def impl_VoteOk.f : Nat → Int → Int → Int → Int → Int → Int → Int → Bool → (List Int) → Int → Bool → (List Int) → Option Bool
  | 0, _, _, _, _, _, _, _, _, _, _, _, _ => none
  | k + 1, a0_0, a0_1, a0_2, a0_3, a0_4, a1_0, a1_1, a1_2z, a1_2, a1_3, a1_4z, a1_4 => impl_VoteOk.b some k a0_0 a0_1 a0_2 a0_3 a0_4 a1_0 a1_1 a1_2z a1_2 a1_3 a1_4z a1_4
def impl_VoteOk.enc (r : Bool) : Res := ⟨[.vals false [((.bool r), true)]], []⟩
def impl_VoteOk.ans (k : Nat) : List Arg → Ans
  | [.v (.agg [(.int .i64 a0_0), (.int .i64 a0_1), (.int .i64 a0_2), (.int .i64 a0_3), (.int .i64 a0_4)]), .v (.agg [(.int .i64 a1_0), (.int .i64 a1_1), (.nums 5 .u8 a1_2z a1_2), (.int .i64 a1_3), (.nums 5 .u8 a1_4z a1_4)])] => ⟨impl_VoteOk.f k a0_0 a0_1 a0_2 a0_3 a0_4 a1_0 a1_1 a1_2z a1_2 a1_3 a1_4z a1_4, impl_VoteOk.enc⟩
  | _ => Ans.no
def impl_VoteOk.Cs (k : Nat) : CallSem := tab [(92, impl_LimitsOk.ans k), (79, impl_within.ans k), (93, impl_isNum.ans k), (85, impl_areHashes.ans k)]
def impl_VoteOk.cuts : List (Nat × Keep) := []
theorem impl_VoteOk.s (k : Nat) (a0_0 : Int) (a0_1 : Int) (a0_2 : Int) (a0_3 : Int) (a0_4 : Int) (a1_0 : Int) (a1_1 : Int) (a1_2z : Bool) (a1_2 : List Int) (a1_3 : Int) (a1_4z : Bool) (a1_4 : List Int) : answer Try.prog impl_VoteOk.Cs 100000 impl_VoteOk.cuts [] Try.f26 (k + 1) [.v (.agg [(.int .i64 a0_0), (.int .i64 a0_1), (.int .i64 a0_2), (.int .i64 a0_3), (.int .i64 a0_4)]), .v (.agg [(.int .i64 a1_0), (.int .i64 a1_1), (.nums 5 .u8 a1_2z a1_2), (.int .i64 a1_3), (.nums 5 .u8 a1_4z a1_4)])] = impl_VoteOk.b (fun r => some (impl_VoteOk.enc r)) k a0_0 a0_1 a0_2 a0_3 a0_4 a1_0 a1_1 a1_2z a1_2 a1_3 a1_4z a1_4 := by kernel_rfl
theorem impl_VoteOk.b_nat {R R' : Type} (e : R → R') (ret : Bool → Option R) (k : Nat) (a0_0 : Int) (a0_1 : Int) (a0_2 : Int) (a0_3 : Int) (a0_4 : Int) (a1_0 : Int) (a1_1 : Int) (a1_2z : Bool) (a1_2 : List Int) (a1_3 : Int) (a1_4z : Bool) (a1_4 : List Int) : impl_VoteOk.b (fun r => (ret r).map e) k a0_0 a0_1 a0_2 a0_3 a0_4 a1_0 a1_1 a1_2z a1_2 a1_3 a1_4z a1_4 = (impl_VoteOk.b ret k a0_0 a0_1 a0_2 a0_3 a0_4 a1_0 a1_1 a1_2z a1_2 a1_3 a1_4z a1_4).map e := by
  unfold impl_VoteOk.b
  repeat' first | with_reducible refine nat_cond ?_ ?_ | with_reducible refine nat_bind fun _ => ?_ | rfl
theorem impl_VoteOk.eq (k : Nat) (a0_0 : Int) (a0_1 : Int) (a0_2 : Int) (a0_3 : Int) (a0_4 : Int) (a1_0 : Int) (a1_1 : Int) (a1_2z : Bool) (a1_2 : List Int) (a1_3 : Int) (a1_4z : Bool) (a1_4 : List Int) : answer Try.prog impl_VoteOk.Cs 100000 impl_VoteOk.cuts [] Try.f26 (k + 1) [.v (.agg [(.int .i64 a0_0), (.int .i64 a0_1), (.int .i64 a0_2), (.int .i64 a0_3), (.int .i64 a0_4)]), .v (.agg [(.int .i64 a1_0), (.int .i64 a1_1), (.nums 5 .u8 a1_2z a1_2), (.int .i64 a1_3), (.nums 5 .u8 a1_4z a1_4)])] = (impl_VoteOk.f (k + 1) a0_0 a0_1 a0_2 a0_3 a0_4 a1_0 a1_1 a1_2z a1_2 a1_3 a1_4z a1_4).map impl_VoteOk.enc := by
  refine (impl_VoteOk.s k a0_0 a0_1 a0_2 a0_3 a0_4 a1_0 a1_1 a1_2z a1_2 a1_3 a1_4z a1_4).trans (Eq.trans ?_ (impl_VoteOk.b_nat impl_VoteOk.enc some k a0_0 a0_1 a0_2 a0_3 a0_4 a1_0 a1_1 a1_2z a1_2 a1_3 a1_4z a1_4))
  simp only [Option.map_some]
theorem impl_VoteOk.sound (k : Nat) : SoundF Try.prog 26 (fun a => (impl_VoteOk.ans k a).val) := by
  refine sound_plain (fun args res h => ?_) (fun t n => rfl)
  unfold impl_VoteOk.ans at h
  dsimp only at h
  split at h
  · cases k with
    | zero => cases h
    | succ k =>
      unfold Ans.val at h
      rw [← impl_VoteOk.eq] at h
      exact answer_sound mixed Try.func26 _ _ _ (k + 1) (fun j _ => tab_sound (tab_cons (impl_LimitsOk.sound j) (tab_cons (impl_within.sound j) (tab_cons (impl_isNum.sound j) (tab_cons (impl_areHashes.sound j) (tab_nil)))))) _ _ h
  · exact (Ans.no_val h).elim

/-! loop.example/g00790/impl.BitsNew -/
def impl_BitsNew.b {R : Type} (ret : Bool × List Int → Option R) (k : Nat) (a0 : Int) : Option R :=
  (impl_within.f k a0 1 10).bind fun t0 => cond (!t0) (ret (true, ([] : List Int))) ((impl_BitsSize.f k a0).bind fun t1 => cond (decide (t1 = t1)) (cond (decide ((0 : Int) ≤ t1)) (cond (decide ((t1).toNat < 140737488355328)) (ret (false, (List.replicate (t1).toNat (0 : Int)))) (none)) (none)) (none))
def impl_BitsNew.f : Nat → Int → Option (Bool × List Int)
  | 0, _ => none
  | k + 1, a0 => impl_BitsNew.b some k a0
def impl_BitsNew.enc (r : Bool × List Int) : Res := ⟨[.vals false [((.nums 5 .u8 r.1 r.2), true)]], []⟩
def impl_BitsNew.ans (k : Nat) : List Arg → Ans
  | [.v (.int .i64 a0)] => ⟨impl_BitsNew.f k a0, impl_BitsNew.enc⟩
  | _ => Ans.no
def impl_BitsNew.Cs (k : Nat) : CallSem := tab [(79, impl_within.ans k), (153, impl_BitsSize.ans k)]
def impl_BitsNew.cuts : List (Nat × Keep) := []
theorem impl_BitsNew.s (k : Nat) (a0 : Int) : answer Try.prog impl_BitsNew.Cs 100000 impl_BitsNew.cuts [] Try.f154 (k + 1) [.v (.int .i64 a0)] = impl_BitsNew.b (fun r => some (impl_BitsNew.enc r)) k a0 := by kernel_rfl
theorem impl_BitsNew.b_nat {R R' : Type} (e : R → R') (ret : Bool × List Int → Option R) (k : Nat) (a0 : Int) : impl_BitsNew.b (fun r => (ret r).map e) k a0 = (impl_BitsNew.b ret k a0).map e := by
  unfold impl_BitsNew.b
  repeat' first | with_reducible refine nat_cond ?_ ?_ | with_reducible refine nat_bind fun _ => ?_ | rfl
theorem impl_BitsNew.eq (k : Nat) (a0 : Int) : answer Try.prog impl_BitsNew.Cs 100000 impl_BitsNew.cuts [] Try.f154 (k + 1) [.v (.int .i64 a0)] = (impl_BitsNew.f (k + 1) a0).map impl_BitsNew.enc := by
  refine (impl_BitsNew.s k a0).trans (Eq.trans ?_ (impl_BitsNew.b_nat impl_BitsNew.enc some k a0))
  simp only [Option.map_some]
theorem impl_BitsNew.sound (k : Nat) : SoundF Try.prog 154 (fun a => (impl_BitsNew.ans k a).val) := by
  refine sound_plain (fun args res h => ?_) (fun t n => rfl)
  unfold impl_BitsNew.ans at h
  dsimp only at h
  split at h
  · cases k with
    | zero => cases h
    | succ k =>
      unfold Ans.val at h
      rw [← impl_BitsNew.eq] at h
      exact answer_sound mixed Try.func154 _ _ _ (k + 1) (fun j _ => tab_sound (tab_cons (impl_within.sound j) (tab_cons (impl_BitsSize.sound j) (tab_nil)))) _ _ h
  · exact (Ans.no_val h).elim

/-! loop.example/g00790/impl.BitsOf -/
def impl_BitsOf.b {R : Type} (ret : Bool × (List Int) × Bool → Option R) (j0 : Int → Bool → (List Int) → Bool → (List Int) → Int → Int → Option R) (k : Nat) (a0z : Bool) (a0 : List Int) (a1 : Int) : Option R :=
  (impl_within.f k a1 1 10).bind fun t0 => cond (!t0) (ret (true, ([] : List Int), false)) ((impl_BitsNew.f k a1).bind fun t1 => j0 a1 t1.1 t1.2 a0z a0 ((a0).length : Int) 0)
def impl_BitsOf.l0b {R : Type} (ret : Bool × (List Int) × Bool → Option R) (j0 : Int → Bool → (List Int) → Bool → (List Int) → Int → Int → Option R) (k : Nat) (x1 : Int) (x6z : Bool) (x6 : List Int) (x14z : Bool) (x14 : List Int) (x15 : Int) (x16 : Int) : Option R :=
  cond (decide (x16 < x15)) (cond (decide ((0 : Int) ≤ x16)) (cond (decide (x16 < ((x14).length : Int))) ((impl_within.f k (rdI x14 x16) 0 (RowKit.wrap64 (x1 - 1))).bind fun t0 => cond (!t0) (ret (true, ([] : List Int), false)) (cond (decide ((0 : Int) ≤ (RowKit.wrap64 (Int.tdiv (rdI x14 x16) 8)))) (cond (decide ((RowKit.wrap64 (Int.tdiv (rdI x14 x16) 8)) < ((x6).length : Int))) (cond (decide ((0 : Int) ≤ (Int.tmod (rdI x14 x16) 8))) (cond (decide ((0 : Int) ≤ (RowKit.wrap64 (Int.tdiv (rdI x14 x16) 8)))) (cond (decide ((RowKit.wrap64 (Int.tdiv (rdI x14 x16) 8)) < ((x6).length : Int))) (j0 x1 x6z ((x6).set ((RowKit.wrap64 (Int.tdiv (rdI x14 x16) 8))).toNat (Go.bits .or .u8 (rdI x6 (RowKit.wrap64 (Int.tdiv (rdI x14 x16) 8))) (shlI .u8 1 (Int.tmod (rdI x14 x16) 8)))) x14z x14 x15 (RowKit.wrap64 (x16 + 1))) (none)) (none)) (none)) (none)) (none))) (none)) (none)) (ret (x6z, x6, true))
def impl_BitsOf.l0 : Nat → Int → Bool → (List Int) → Bool → (List Int) → Int → Int → Option (Bool × (List Int) × Bool)
  | 0, _, _, _, _, _, _, _ => none
  | k + 1, x1, x6z, x6, x14z, x14, x15, x16 => impl_BitsOf.l0b some (impl_BitsOf.l0 k) k x1 x6z x6 x14z x14 x15 x16
def impl_BitsOf.f : Nat → Bool → (List Int) → Int → Option (Bool × (List Int) × Bool)
  | 0, _, _, _ => none
  | k + 1, a0z, a0, a1 => impl_BitsOf.b some (impl_BitsOf.l0 k) k a0z a0 a1
def impl_BitsOf.enc (r : Bool × (List Int) × Bool) : Res := ⟨[.vals false [((.nums 5 .u8 r.1 r.2.1), true)], .vals false [((.bool r.2.2), true)]], []⟩
def impl_BitsOf.ans (k : Nat) : List Arg → Ans
  | [.v (.nums 3 .i64 a0z a0), .v (.int .i64 a1)] => ⟨impl_BitsOf.f k a0z a0 a1, impl_BitsOf.enc⟩
  | _ => Ans.no
def impl_BitsOf.Cs (k : Nat) : CallSem := tab [(79, impl_within.ans k), (154, impl_BitsNew.ans k)]
def impl_BitsOf.cuts : List (Nat × Keep) := [(122, ⟨[(1, some []), (6, none), (14, some []), (15, some []), (16, some [])], []⟩)]
noncomputable def impl_BitsOf.K0 : List Fr := framesAt [true, true, true, false, true, false] (bodyOf Try.f94 impl_BitsOf.cuts) []
def impl_BitsOf.N0 (x1 : Int) (x6z : Bool) (x6 : List Int) (x14z : Bool) (x14 : List Int) (x15 : Int) (x16 : Int) : St := stOf 37 37 2 [(1, .val (V.s (.int .i64 x1))), (6, .val ⟨(.nums 5 .u8 x6z x6), [.l 6 0], true, some (.l 6 0)⟩), (14, .val ⟨(.nums 3 .i64 x14z x14), [], false, none⟩), (15, .val (V.s (.int .i64 x15))), (16, .val (V.s (.int .i64 x16)))] []
theorem impl_BitsOf.s (k : Nat) (a0z : Bool) (a0 : List Int) (a1 : Int) : answer Try.prog impl_BitsOf.Cs 100000 impl_BitsOf.cuts [] Try.f94 (k + 1) [.v (.nums 3 .i64 a0z a0), .v (.int .i64 a1)] = impl_BitsOf.b (fun r => some (impl_BitsOf.enc r)) (fun x1 x6z x6 x14z x14 x15 x16 => rounds Try.prog impl_BitsOf.Cs (finish Try.prog [] Try.f94 [.v (.nums 3 .i64 a0z a0), .v (.int .i64 a1)]) 100000 k impl_BitsOf.K0 (impl_BitsOf.N0 x1 x6z x6 x14z x14 x15 x16)) k a0z a0 a1 := by kernel_rfl
theorem impl_BitsOf.s0 (k : Nat) (G : List Fr → St → Option Res) (a0z : Bool) (a0 : List Int) (a1 : Int) (yx1 : Int) (yx6z : Bool) (yx6 : List Int) (yx14z : Bool) (yx14 : List Int) (yx15 : Int) (yx16 : Int) : resume Try.prog (impl_BitsOf.Cs k) G (finish Try.prog [] Try.f94 [.v (.nums 3 .i64 a0z a0), .v (.int .i64 a1)]) 100000 impl_BitsOf.K0 (impl_BitsOf.N0 yx1 yx6z yx6 yx14z yx14 yx15 yx16) = impl_BitsOf.l0b (fun r => some (impl_BitsOf.enc r)) (fun x1 x6z x6 x14z x14 x15 x16 => G impl_BitsOf.K0 (impl_BitsOf.N0 x1 x6z x6 x14z x14 x15 x16)) k yx1 yx6z yx6 yx14z yx14 yx15 yx16 := by kernel_rfl
theorem impl_BitsOf.b_nat {R R' : Type} (e : R → R') (ret : Bool × (List Int) × Bool → Option R) (j0 : Int → Bool → (List Int) → Bool → (List Int) → Int → Int → Option R) (k : Nat) (a0z : Bool) (a0 : List Int) (a1 : Int) : impl_BitsOf.b (fun r => (ret r).map e) (fun x1 x6z x6 x14z x14 x15 x16 => (j0 x1 x6z x6 x14z x14 x15 x16).map e) k a0z a0 a1 = (impl_BitsOf.b ret j0 k a0z a0 a1).map e := by
  unfold impl_BitsOf.b
  repeat' first | with_reducible refine nat_cond ?_ ?_ | with_reducible refine nat_bind fun _ => ?_ | rfl
theorem impl_BitsOf.l0b_nat {R R' : Type} (e : R → R') (ret : Bool × (List Int) × Bool → Option R) (j0 : Int → Bool → (List Int) → Bool → (List Int) → Int → Int → Option R) (k : Nat) (x1 : Int) (x6z : Bool) (x6 : List Int) (x14z : Bool) (x14 : List Int) (x15 : Int) (x16 : Int) : impl_BitsOf.l0b (fun r => (ret r).map e) (fun x1 x6z x6 x14z x14 x15 x16 => (j0 x1 x6z x6 x14z x14 x15 x16).map e) k x1 x6z x6 x14z x14 x15 x16 = (impl_BitsOf.l0b ret j0 k x1 x6z x6 x14z x14 x15 x16).map e := by
  unfold impl_BitsOf.l0b
  repeat' first | with_reducible refine nat_cond ?_ ?_ | with_reducible refine nat_bind fun _ => ?_ | rfl
theorem impl_BitsOf.rounds_eq (a0z : Bool) (a0 : List Int) (a1 : Int) : ∀ k, (∀ (x1 : Int) (x6z : Bool) (x6 : List Int) (x14z : Bool) (x14 : List Int) (x15 : Int) (x16 : Int), rounds Try.prog impl_BitsOf.Cs (finish Try.prog [] Try.f94 [.v (.nums 3 .i64 a0z a0), .v (.int .i64 a1)]) 100000 k impl_BitsOf.K0 (impl_BitsOf.N0 x1 x6z x6 x14z x14 x15 x16) = (impl_BitsOf.l0 k x1 x6z x6 x14z x14 x15 x16).map impl_BitsOf.enc)
  | 0 => fun _ _ _ _ _ _ _ => rfl
  | k + 1 => by
    have ih := impl_BitsOf.rounds_eq a0z a0 a1 k
    refine fun _ _ _ _ _ _ _ => ?_
    · refine (impl_BitsOf.s0 k _ a0z a0 a1 _ _ _ _ _ _ _).trans (Eq.trans ?_ (impl_BitsOf.l0b_nat impl_BitsOf.enc some (impl_BitsOf.l0 k) k _ _ _ _ _ _ _))
      simp only [ih, Option.map_some]
theorem impl_BitsOf.eq (k : Nat) (a0z : Bool) (a0 : List Int) (a1 : Int) : answer Try.prog impl_BitsOf.Cs 100000 impl_BitsOf.cuts [] Try.f94 (k + 1) [.v (.nums 3 .i64 a0z a0), .v (.int .i64 a1)] = (impl_BitsOf.f (k + 1) a0z a0 a1).map impl_BitsOf.enc := by
  have ih := impl_BitsOf.rounds_eq a0z a0 a1 k
  refine (impl_BitsOf.s k a0z a0 a1).trans (Eq.trans ?_ (impl_BitsOf.b_nat impl_BitsOf.enc some (impl_BitsOf.l0 k) k a0z a0 a1))
  simp only [ih, Option.map_some]
theorem impl_BitsOf.sound (k : Nat) : SoundF Try.prog 94 (fun a => (impl_BitsOf.ans k a).val) := by
  refine sound_plain (fun args res h => ?_) (fun t n => rfl)
  unfold impl_BitsOf.ans at h
  dsimp only at h
  split at h
  · cases k with
    | zero => cases h
    | succ k =>
      unfold Ans.val at h
      rw [← impl_BitsOf.eq] at h
      exact answer_sound mixed Try.func94 _ _ _ (k + 1) (fun j _ => tab_sound (tab_cons (impl_within.sound j) (tab_cons (impl_BitsNew.sound j) (tab_nil)))) _ _ h
  · exact (Ans.no_val h).elim

/-! loop.example/g00790/impl.QcFrom -/
def impl_QcFrom.b {R : Type} (ret : Int × Int × Bool × (List Int) × Bool × (List Int) × Bool × (List T) × Bool → Option R) (j0 : Bool → (List T) → (List Int) → Bool → (List T) → Int → Int → Int → Int → Int → Int → Int → Int → Int → Bool → (List Int) → Bool → (List T) → Option R) (j1 : Bool → (List T) → Bool → (List T) → Int → Int → Int → Int → Bool → (List Int) → Bool → (List Int) → Bool → (List T) → Option R) (k : Nat) (a0_0 : Int) (a0_1 : Int) (a0_2 : Int) (a0_3 : Int) (a0_4 : Int) (a1z : Bool) (a1 : List T) : Option R :=
  cond (decide (((a1).length : Int) = 0)) (ret (0, 0, true, ([] : List Int), true, ([] : List Int), true, ([] : List T), false)) (cond (decide ((0 : Int) < ((a1).length : Int))) (cond (decide ((0 : Int) < ((a1).length : Int))) (cond (decide ((0 : Int) < ((a1).length : Int))) ((impl_copyBytes.f k (((((a1).getD 0 .bad).cells.getD 2 .bad)).isNil) (((((a1).getD 0 .bad).cells.getD 2 .bad)).toNums)).bind fun t0 => j0 a1z a1 ([] : List Int) a1z a1 ((a1).length : Int) 0 a0_0 a0_1 a0_2 a0_3 a0_4 (((((a1).getD 0 .bad).cells.getD 0 .bad)).toInt) (((((a1).getD 0 .bad).cells.getD 1 .bad)).toInt) t0.1 t0.2 true ([] : List T)) (none)) (none)) (none))
def impl_QcFrom.l0b {R : Type} (ret : Int × Int × Bool × (List Int) × Bool × (List Int) × Bool × (List T) × Bool → Option R) (j0 : Bool → (List T) → (List Int) → Bool → (List T) → Int → Int → Int → Int → Int → Int → Int → Int → Int → Bool → (List Int) → Bool → (List T) → Option R) (j1 : Bool → (List T) → Bool → (List T) → Int → Int → Int → Int → Bool → (List Int) → Bool → (List Int) → Bool → (List T) → Option R) (k : Nat) (x1z : Bool) (x1 : List T) (x7 : List Int) (x31z : Bool) (x31 : List T) (x32 : Int) (x33 : Int) (c2_0 : Int) (c2_1 : Int) (c2_2 : Int) (c2_3 : Int) (c2_4 : Int) (c6_0 : Int) (c6_1 : Int) (c6_2z : Bool) (c6_2 : List Int) (c6_4z : Bool) (c6_4 : List T) : Option R :=
  cond (decide (x33 < x32)) (cond (decide ((0 : Int) ≤ x33)) (cond (decide (x33 < ((x31).length : Int))) (cond (decide ((x7).length + 1 < 17592186044416)) ((impl_copyBytes.f k (((((x31).getD (x33).toNat .bad).cells.getD 4 .bad)).isNil) (((((x31).getD (x33).toNat .bad).cells.getD 4 .bad)).toNums)).bind fun t0 => cond (decide ((c6_4).length + 1 < 5864062014805)) (j0 x1z x1 (x7 ++ ([((((x31).getD (x33).toNat .bad).cells.getD 3 .bad)).toInt] : List Int)) x31z x31 x32 (RowKit.wrap64 (x33 + 1)) c2_0 c2_1 c2_2 c2_3 c2_4 c6_0 c6_1 c6_2z c6_2 false (c6_4 ++ ([(.nums 5 .u8 t0.1 t0.2)] : List T))) (none)) (none)) (none)) (none)) ((impl_BitsOf.f k false x7 c2_0).bind fun t0 => (impl_QcVotes.f k c6_0 c6_1 c6_2z c6_2 t0.1 t0.2.1 c6_4z c6_4).bind fun t1 => (impl_QcOk.f k c2_0 c2_1 c2_2 c2_3 c2_4 c6_0 c6_1 c6_2z c6_2 t0.1 t0.2.1 c6_4z c6_4).bind fun t2 => cond (!t2) (ret (0, 0, true, ([] : List Int), true, ([] : List Int), true, ([] : List T), false)) (cond (!(decide (((t1.2).length : Int) = ((x1).length : Int)))) (ret (0, 0, true, ([] : List Int), true, ([] : List Int), true, ([] : List T), false)) (j1 x1z x1 t1.1 t1.2 ((x1).length : Int) 0 c6_0 c6_1 c6_2z c6_2 t0.1 t0.2.1 c6_4z c6_4)))
def impl_QcFrom.l1b {R : Type} (ret : Int × Int × Bool × (List Int) × Bool × (List Int) × Bool × (List T) × Bool → Option R) (j0 : Bool → (List T) → (List Int) → Bool → (List T) → Int → Int → Int → Int → Int → Int → Int → Int → Int → Bool → (List Int) → Bool → (List T) → Option R) (j1 : Bool → (List T) → Bool → (List T) → Int → Int → Int → Int → Bool → (List Int) → Bool → (List Int) → Bool → (List T) → Option R) (k : Nat) (x1z : Bool) (x1 : List T) (x10z : Bool) (x10 : List T) (x74 : Int) (x75 : Int) (c6_0 : Int) (c6_1 : Int) (c6_2z : Bool) (c6_2 : List Int) (c6_3z : Bool) (c6_3 : List Int) (c6_4z : Bool) (c6_4 : List T) : Option R :=
  cond (decide (x75 < x74)) (cond (decide ((0 : Int) ≤ x75)) (cond (decide (x75 < ((x10).length : Int))) (cond (decide ((0 : Int) ≤ x75)) (cond (decide (x75 < ((x1).length : Int))) ((impl_VoteSame.f k (((((x10).getD (x75).toNat .bad).cells.getD 0 .bad)).toInt) (((((x10).getD (x75).toNat .bad).cells.getD 1 .bad)).toInt) (((((x10).getD (x75).toNat .bad).cells.getD 2 .bad)).isNil) (((((x10).getD (x75).toNat .bad).cells.getD 2 .bad)).toNums) (((((x10).getD (x75).toNat .bad).cells.getD 3 .bad)).toInt) (((((x10).getD (x75).toNat .bad).cells.getD 4 .bad)).isNil) (((((x10).getD (x75).toNat .bad).cells.getD 4 .bad)).toNums) (((((x1).getD (x75).toNat .bad).cells.getD 0 .bad)).toInt) (((((x1).getD (x75).toNat .bad).cells.getD 1 .bad)).toInt) (((((x1).getD (x75).toNat .bad).cells.getD 2 .bad)).isNil) (((((x1).getD (x75).toNat .bad).cells.getD 2 .bad)).toNums) (((((x1).getD (x75).toNat .bad).cells.getD 3 .bad)).toInt) (((((x1).getD (x75).toNat .bad).cells.getD 4 .bad)).isNil) (((((x1).getD (x75).toNat .bad).cells.getD 4 .bad)).toNums)).bind fun t0 => cond (!t0) (ret (0, 0, true, ([] : List Int), true, ([] : List Int), true, ([] : List T), false)) (j1 x1z x1 x10z x10 x74 (RowKit.wrap64 (x75 + 1)) c6_0 c6_1 c6_2z c6_2 c6_3z c6_3 c6_4z c6_4)) (none)) (none)) (none)) (none)) (ret (c6_0, c6_1, c6_2z, c6_2, c6_3z, c6_3, c6_4z, c6_4, true))
mutual
def impl_QcFrom.l0 : Nat → Bool → (List T) → (List Int) → Bool → (List T) → Int → Int → Int → Int → Int → Int → Int → Int → Int → Bool → (List Int) → Bool → (List T) → Option (Int × Int × Bool × (List Int) × Bool × (List Int) × Bool × (List T) × Bool)
  | 0, _, _, _, _, _, _, _, _, _, _, _, _, _, _, _, _, _, _ => none
  | k + 1, x1z, x1, x7, x31z, x31, x32, x33, c2_0, c2_1, c2_2, c2_3, c2_4, c6_0, c6_1, c6_2z, c6_2, c6_4z, c6_4 => impl_QcFrom.l0b some (impl_QcFrom.l0 k) (impl_QcFrom.l1 k) k x1z x1 x7 x31z x31 x32 x33 c2_0 c2_1 c2_2 c2_3 c2_4 c6_0 c6_1 c6_2z c6_2 c6_4z c6_4
def impl_QcFrom.l1 : Nat → Bool → (List T) → Bool → (List T) → Int → Int → Int → Int → Bool → (List Int) → Bool → (List Int) → Bool → (List T) → Option (Int × Int × Bool × (List Int) × Bool × (List Int) × Bool × (List T) × Bool)
  | 0, _, _, _, _, _, _, _, _, _, _, _, _, _, _ => none
  | k + 1, x1z, x1, x10z, x10, x74, x75, c6_0, c6_1, c6_2z, c6_2, c6_3z, c6_3, c6_4z, c6_4 => impl_QcFrom.l1b some (impl_QcFrom.l0 k) (impl_QcFrom.l1 k) k x1z x1 x10z x10 x74 x75 c6_0 c6_1 c6_2z c6_2 c6_3z c6_3 c6_4z c6_4
end
def impl_QcFrom.f : Nat → Int → Int → Int → Int → Int → Bool → (List T) → Option (Int × Int × Bool × (List Int) × Bool × (List Int) × Bool × (List T) × Bool)
  | 0, _, _, _, _, _, _, _ => none
  | k + 1, a0_0, a0_1, a0_2, a0_3, a0_4, a1z, a1 => impl_QcFrom.b some (impl_QcFrom.l0 k) (impl_QcFrom.l1 k) k a0_0 a0_1 a0_2 a0_3 a0_4 a1z a1
def impl_QcFrom.enc (r : Int × Int × Bool × (List Int) × Bool × (List Int) × Bool × (List T) × Bool) : Res := ⟨[.vals true [((.int .i64 r.1), true), ((.int .i64 r.2.1), true), ((.nums 5 .u8 r.2.2.1 r.2.2.2.1), true), ((.nums 5 .u8 r.2.2.2.2.1 r.2.2.2.2.2.1), true), ((.sl 22 r.2.2.2.2.2.2.1 r.2.2.2.2.2.2.2.1), true)], .vals false [((.bool r.2.2.2.2.2.2.2.2), true)]], []⟩
def impl_QcFrom.ans (k : Nat) : List Arg → Ans
  | [.v (.agg [(.int .i64 a0_0), (.int .i64 a0_1), (.int .i64 a0_2), (.int .i64 a0_3), (.int .i64 a0_4)]), .v (.sl 33 a1z a1)] => ⟨impl_QcFrom.f k a0_0 a0_1 a0_2 a0_3 a0_4 a1z a1, impl_QcFrom.enc⟩
  | _ => Ans.no
def impl_QcFrom.Cs (k : Nat) : CallSem := tab [(80, impl_copyBytes.ans k), (90, impl_QcOk.ans k), (24, impl_QcVotes.ans k), (82, impl_VoteSame.ans k), (94, impl_BitsOf.ans k)]
def impl_QcFrom.cuts : List (Nat × Keep) := [(122, ⟨[(1, some []), (2, some []), (4, some []), (6, some []), (7, none), (31, some []), (32, some []), (33, some [])], [(2, [some [], some [], some [], some [], some []]), (4, [some [], some [], none, none, none]), (6, [some [], some [], none, none, none])]⟩), (2042, ⟨[(1, some []), (4, some []), (6, some []), (10, none), (74, some []), (75, some [])], [(4, [some [], some [], none, none, none]), (6, [some [], some [], none, none, none])]⟩)]
noncomputable def impl_QcFrom.K0 : List Fr := framesAt [true, true, true, false, true, false] (bodyOf Try.f27 impl_QcFrom.cuts) []
def impl_QcFrom.N0 (x1z : Bool) (x1 : List T) (x7 : List Int) (x31z : Bool) (x31 : List T) (x32 : Int) (x33 : Int) (c2_0 : Int) (c2_1 : Int) (c2_2 : Int) (c2_3 : Int) (c2_4 : Int) (c6_0 : Int) (c6_1 : Int) (c6_2z : Bool) (c6_2 : List Int) (c6_4z : Bool) (c6_4 : List T) : St := stOf 91 91 2 [(1, .val ⟨(.sl 33 x1z x1), [], false, none⟩), (2, .bp 2 0), (4, .bp 4 0), (6, .bp 6 0), (7, .val ⟨(.nums 3 .i64 false x7), [.l 7 0], true, some (.l 7 0)⟩), (31, .val ⟨(.sl 33 x31z x31), [], false, none⟩), (32, .val (V.s (.int .i64 x32))), (33, .val (V.s (.int .i64 x33)))] [(2, .cells [V.s (.int .i64 c2_0), V.s (.int .i64 c2_1), V.s (.int .i64 c2_2), V.s (.int .i64 c2_3), V.s (.int .i64 c2_4)]), (4, .cells [V.s (.int .i64 0), V.s (.int .i64 0), ⟨(.nums 5 .u8 true ([] : List Int)), [.l 4 3], true, some (.l 4 3)⟩, ⟨(.nums 5 .u8 true ([] : List Int)), [.l 4 4], true, some (.l 4 4)⟩, ⟨(.sl 22 true ([] : List T)), [.l 4 5], true, some (.l 4 5)⟩]), (6, .cells [V.s (.int .i64 c6_0), V.s (.int .i64 c6_1), ⟨(.nums 5 .u8 c6_2z c6_2), [.l 6 3], true, some (.l 6 3)⟩, ⟨(.nums 5 .u8 true ([] : List Int)), [.l 6 4], true, some (.l 6 4)⟩, ⟨(.sl 22 c6_4z c6_4), [.l 6 5], true, some (.l 6 5)⟩])]
noncomputable def impl_QcFrom.K1 : List Fr := framesAt [true, true, true, true, true, true, true, false, true, false] (bodyOf Try.f27 impl_QcFrom.cuts) []
def impl_QcFrom.N1 (x1z : Bool) (x1 : List T) (x10z : Bool) (x10 : List T) (x74 : Int) (x75 : Int) (c6_0 : Int) (c6_1 : Int) (c6_2z : Bool) (c6_2 : List Int) (c6_3z : Bool) (c6_3 : List Int) (c6_4z : Bool) (c6_4 : List T) : St := stOf 91 91 2 [(1, .val ⟨(.sl 33 x1z x1), [], false, none⟩), (4, .bp 4 0), (6, .bp 6 0), (10, .val ⟨(.sl 33 x10z x10), [.l 10 0], true, some (.l 10 0)⟩), (74, .val (V.s (.int .i64 x74))), (75, .val (V.s (.int .i64 x75)))] [(4, .cells [V.s (.int .i64 0), V.s (.int .i64 0), ⟨(.nums 5 .u8 true ([] : List Int)), [.l 4 3], true, some (.l 4 3)⟩, ⟨(.nums 5 .u8 true ([] : List Int)), [.l 4 4], true, some (.l 4 4)⟩, ⟨(.sl 22 true ([] : List T)), [.l 4 5], true, some (.l 4 5)⟩]), (6, .cells [V.s (.int .i64 c6_0), V.s (.int .i64 c6_1), ⟨(.nums 5 .u8 c6_2z c6_2), [.l 6 3], true, some (.l 6 3)⟩, ⟨(.nums 5 .u8 c6_3z c6_3), [.l 6 4], true, some (.l 6 4)⟩, ⟨(.sl 22 c6_4z c6_4), [.l 6 5], true, some (.l 6 5)⟩])]
theorem impl_QcFrom.s (k : Nat) (a0_0 : Int) (a0_1 : Int) (a0_2 : Int) (a0_3 : Int) (a0_4 : Int) (a1z : Bool) (a1 : List T) : answer Try.prog impl_QcFrom.Cs 100000 impl_QcFrom.cuts [] Try.f27 (k + 1) [.v (.agg [(.int .i64 a0_0), (.int .i64 a0_1), (.int .i64 a0_2), (.int .i64 a0_3), (.int .i64 a0_4)]), .v (.sl 33 a1z a1)] = impl_QcFrom.b (fun r => some (impl_QcFrom.enc r)) (fun x1z x1 x7 x31z x31 x32 x33 c2_0 c2_1 c2_2 c2_3 c2_4 c6_0 c6_1 c6_2z c6_2 c6_4z c6_4 => rounds Try.prog impl_QcFrom.Cs (finish Try.prog [] Try.f27 [.v (.agg [(.int .i64 a0_0), (.int .i64 a0_1), (.int .i64 a0_2), (.int .i64 a0_3), (.int .i64 a0_4)]), .v (.sl 33 a1z a1)]) 100000 k impl_QcFrom.K0 (impl_QcFrom.N0 x1z x1 x7 x31z x31 x32 x33 c2_0 c2_1 c2_2 c2_3 c2_4 c6_0 c6_1 c6_2z c6_2 c6_4z c6_4)) (fun x1z x1 x10z x10 x74 x75 c6_0 c6_1 c6_2z c6_2 c6_3z c6_3 c6_4z c6_4 => rounds Try.prog impl_QcFrom.Cs (finish Try.prog [] Try.f27 [.v (.agg [(.int .i64 a0_0), (.int .i64 a0_1), (.int .i64 a0_2), (.int .i64 a0_3), (.int .i64 a0_4)]), .v (.sl 33 a1z a1)]) 100000 k impl_QcFrom.K1 (impl_QcFrom.N1 x1z x1 x10z x10 x74 x75 c6_0 c6_1 c6_2z c6_2 c6_3z c6_3 c6_4z c6_4)) k a0_0 a0_1 a0_2 a0_3 a0_4 a1z a1 := by kernel_rfl
theorem impl_QcFrom.s0 (k : Nat) (G : List Fr → St → Option Res) (a0_0 : Int) (a0_1 : Int) (a0_2 : Int) (a0_3 : Int) (a0_4 : Int) (a1z : Bool) (a1 : List T) (yx1z : Bool) (yx1 : List T) (yx7 : List Int) (yx31z : Bool) (yx31 : List T) (yx32 : Int) (yx33 : Int) (yc2_0 : Int) (yc2_1 : Int) (yc2_2 : Int) (yc2_3 : Int) (yc2_4 : Int) (yc6_0 : Int) (yc6_1 : Int) (yc6_2z : Bool) (yc6_2 : List Int) (yc6_4z : Bool) (yc6_4 : List T) : resume Try.prog (impl_QcFrom.Cs k) G (finish Try.prog [] Try.f27 [.v (.agg [(.int .i64 a0_0), (.int .i64 a0_1), (.int .i64 a0_2), (.int .i64 a0_3), (.int .i64 a0_4)]), .v (.sl 33 a1z a1)]) 100000 impl_QcFrom.K0 (impl_QcFrom.N0 yx1z yx1 yx7 yx31z yx31 yx32 yx33 yc2_0 yc2_1 yc2_2 yc2_3 yc2_4 yc6_0 yc6_1 yc6_2z yc6_2 yc6_4z yc6_4) = impl_QcFrom.l0b (fun r => some (impl_QcFrom.enc r)) (fun x1z x1 x7 x31z x31 x32 x33 c2_0 c2_1 c2_2 c2_3 c2_4 c6_0 c6_1 c6_2z c6_2 c6_4z c6_4 => G impl_QcFrom.K0 (impl_QcFrom.N0 x1z x1 x7 x31z x31 x32 x33 c2_0 c2_1 c2_2 c2_3 c2_4 c6_0 c6_1 c6_2z c6_2 c6_4z c6_4)) (fun x1z x1 x10z x10 x74 x75 c6_0 c6_1 c6_2z c6_2 c6_3z c6_3 c6_4z c6_4 => G impl_QcFrom.K1 (impl_QcFrom.N1 x1z x1 x10z x10 x74 x75 c6_0 c6_1 c6_2z c6_2 c6_3z c6_3 c6_4z c6_4)) k yx1z yx1 yx7 yx31z yx31 yx32 yx33 yc2_0 yc2_1 yc2_2 yc2_3 yc2_4 yc6_0 yc6_1 yc6_2z yc6_2 yc6_4z yc6_4 := by kernel_rfl
theorem impl_QcFrom.s1 (k : Nat) (G : List Fr → St → Option Res) (a0_0 : Int) (a0_1 : Int) (a0_2 : Int) (a0_3 : Int) (a0_4 : Int) (a1z : Bool) (a1 : List T) (yx1z : Bool) (yx1 : List T) (yx10z : Bool) (yx10 : List T) (yx74 : Int) (yx75 : Int) (yc6_0 : Int) (yc6_1 : Int) (yc6_2z : Bool) (yc6_2 : List Int) (yc6_3z : Bool) (yc6_3 : List Int) (yc6_4z : Bool) (yc6_4 : List T) : resume Try.prog (impl_QcFrom.Cs k) G (finish Try.prog [] Try.f27 [.v (.agg [(.int .i64 a0_0), (.int .i64 a0_1), (.int .i64 a0_2), (.int .i64 a0_3), (.int .i64 a0_4)]), .v (.sl 33 a1z a1)]) 100000 impl_QcFrom.K1 (impl_QcFrom.N1 yx1z yx1 yx10z yx10 yx74 yx75 yc6_0 yc6_1 yc6_2z yc6_2 yc6_3z yc6_3 yc6_4z yc6_4) = impl_QcFrom.l1b (fun r => some (impl_QcFrom.enc r)) (fun x1z x1 x7 x31z x31 x32 x33 c2_0 c2_1 c2_2 c2_3 c2_4 c6_0 c6_1 c6_2z c6_2 c6_4z c6_4 => G impl_QcFrom.K0 (impl_QcFrom.N0 x1z x1 x7 x31z x31 x32 x33 c2_0 c2_1 c2_2 c2_3 c2_4 c6_0 c6_1 c6_2z c6_2 c6_4z c6_4)) (fun x1z x1 x10z x10 x74 x75 c6_0 c6_1 c6_2z c6_2 c6_3z c6_3 c6_4z c6_4 => G impl_QcFrom.K1 (impl_QcFrom.N1 x1z x1 x10z x10 x74 x75 c6_0 c6_1 c6_2z c6_2 c6_3z c6_3 c6_4z c6_4)) k yx1z yx1 yx10z yx10 yx74 yx75 yc6_0 yc6_1 yc6_2z yc6_2 yc6_3z yc6_3 yc6_4z yc6_4 := by kernel_rfl
theorem impl_QcFrom.b_nat {R R' : Type} (e : R → R') (ret : Int × Int × Bool × (List Int) × Bool × (List Int) × Bool × (List T) × Bool → Option R) (j0 : Bool → (List T) → (List Int) → Bool → (List T) → Int → Int → Int → Int → Int → Int → Int → Int → Int → Bool → (List Int) → Bool → (List T) → Option R) (j1 : Bool → (List T) → Bool → (List T) → Int → Int → Int → Int → Bool → (List Int) → Bool → (List Int) → Bool → (List T) → Option R) (k : Nat) (a0_0 : Int) (a0_1 : Int) (a0_2 : Int) (a0_3 : Int) (a0_4 : Int) (a1z : Bool) (a1 : List T) : impl_QcFrom.b (fun r => (ret r).map e) (fun x1z x1 x7 x31z x31 x32 x33 c2_0 c2_1 c2_2 c2_3 c2_4 c6_0 c6_1 c6_2z c6_2 c6_4z c6_4 => (j0 x1z x1 x7 x31z x31 x32 x33 c2_0 c2_1 c2_2 c2_3 c2_4 c6_0 c6_1 c6_2z c6_2 c6_4z c6_4).map e) (fun x1z x1 x10z x10 x74 x75 c6_0 c6_1 c6_2z c6_2 c6_3z c6_3 c6_4z c6_4 => (j1 x1z x1 x10z x10 x74 x75 c6_0 c6_1 c6_2z c6_2 c6_3z c6_3 c6_4z c6_4).map e) k a0_0 a0_1 a0_2 a0_3 a0_4 a1z a1 = (impl_QcFrom.b ret j0 j1 k a0_0 a0_1 a0_2 a0_3 a0_4 a1z a1).map e := by
  unfold impl_QcFrom.b
  repeat' first | with_reducible refine nat_cond ?_ ?_ | with_reducible refine nat_bind fun _ => ?_ | rfl
theorem impl_QcFrom.l0b_nat {R R' : Type} (e : R → R') (ret : Int × Int × Bool × (List Int) × Bool × (List Int) × Bool × (List T) × Bool → Option R) (j0 : Bool → (List T) → (List Int) → Bool → (List T) → Int → Int → Int → Int → Int → Int → Int → Int → Int → Bool → (List Int) → Bool → (List T) → Option R) (j1 : Bool → (List T) → Bool → (List T) → Int → Int → Int → Int → Bool → (List Int) → Bool → (List Int) → Bool → (List T) → Option R) (k : Nat) (x1z : Bool) (x1 : List T) (x7 : List Int) (x31z : Bool) (x31 : List T) (x32 : Int) (x33 : Int) (c2_0 : Int) (c2_1 : Int) (c2_2 : Int) (c2_3 : Int) (c2_4 : Int) (c6_0 : Int) (c6_1 : Int) (c6_2z : Bool) (c6_2 : List Int) (c6_4z : Bool) (c6_4 : List T) : impl_QcFrom.l0b (fun r => (ret r).map e) (fun x1z x1 x7 x31z x31 x32 x33 c2_0 c2_1 c2_2 c2_3 c2_4 c6_0 c6_1 c6_2z c6_2 c6_4z c6_4 => (j0 x1z x1 x7 x31z x31 x32 x33 c2_0 c2_1 c2_2 c2_3 c2_4 c6_0 c6_1 c6_2z c6_2 c6_4z c6_4).map e) (fun x1z x1 x10z x10 x74 x75 c6_0 c6_1 c6_2z c6_2 c6_3z c6_3 c6_4z c6_4 => (j1 x1z x1 x10z x10 x74 x75 c6_0 c6_1 c6_2z c6_2 c6_3z c6_3 c6_4z c6_4).map e) k x1z x1 x7 x31z x31 x32 x33 c2_0 c2_1 c2_2 c2_3 c2_4 c6_0 c6_1 c6_2z c6_2 c6_4z c6_4 = (impl_QcFrom.l0b ret j0 j1 k x1z x1 x7 x31z x31 x32 x33 c2_0 c2_1 c2_2 c2_3 c2_4 c6_0 c6_1 c6_2z c6_2 c6_4z c6_4).map e := by
  unfold impl_QcFrom.l0b
  repeat' first | with_reducible refine nat_cond ?_ ?_ | with_reducible refine nat_bind fun _ => ?_ | rfl
theorem impl_QcFrom.l1b_nat {R R' : Type} (e : R → R') (ret : Int × Int × Bool × (List Int) × Bool × (List Int) × Bool × (List T) × Bool → Option R) (j0 : Bool → (List T) → (List Int) → Bool → (List T) → Int → Int → Int → Int → Int → Int → Int → Int → Int → Bool → (List Int) → Bool → (List T) → Option R) (j1 : Bool → (List T) → Bool → (List T) → Int → Int → Int → Int → Bool → (List Int) → Bool → (List Int) → Bool → (List T) → Option R) (k : Nat) (x1z : Bool) (x1 : List T) (x10z : Bool) (x10 : List T) (x74 : Int) (x75 : Int) (c6_0 : Int) (c6_1 : Int) (c6_2z : Bool) (c6_2 : List Int) (c6_3z : Bool) (c6_3 : List Int) (c6_4z : Bool) (c6_4 : List T) : impl_QcFrom.l1b (fun r => (ret r).map e) (fun x1z x1 x7 x31z x31 x32 x33 c2_0 c2_1 c2_2 c2_3 c2_4 c6_0 c6_1 c6_2z c6_2 c6_4z c6_4 => (j0 x1z x1 x7 x31z x31 x32 x33 c2_0 c2_1 c2_2 c2_3 c2_4 c6_0 c6_1 c6_2z c6_2 c6_4z c6_4).map e) (fun x1z x1 x10z x10 x74 x75 c6_0 c6_1 c6_2z c6_2 c6_3z c6_3 c6_4z c6_4 => (j1 x1z x1 x10z x10 x74 x75 c6_0 c6_1 c6_2z c6_2 c6_3z c6_3 c6_4z c6_4).map e) k x1z x1 x10z x10 x74 x75 c6_0 c6_1 c6_2z c6_2 c6_3z c6_3 c6_4z c6_4 = (impl_QcFrom.l1b ret j0 j1 k x1z x1 x10z x10 x74 x75 c6_0 c6_1 c6_2z c6_2 c6_3z c6_3 c6_4z c6_4).map e := by
  unfold impl_QcFrom.l1b
  repeat' first | with_reducible refine nat_cond ?_ ?_ | with_reducible refine nat_bind fun _ => ?_ | rfl
theorem impl_QcFrom.rounds_eq (a0_0 : Int) (a0_1 : Int) (a0_2 : Int) (a0_3 : Int) (a0_4 : Int) (a1z : Bool) (a1 : List T) : ∀ k, (∀ (x1z : Bool) (x1 : List T) (x7 : List Int) (x31z : Bool) (x31 : List T) (x32 : Int) (x33 : Int) (c2_0 : Int) (c2_1 : Int) (c2_2 : Int) (c2_3 : Int) (c2_4 : Int) (c6_0 : Int) (c6_1 : Int) (c6_2z : Bool) (c6_2 : List Int) (c6_4z : Bool) (c6_4 : List T), rounds Try.prog impl_QcFrom.Cs (finish Try.prog [] Try.f27 [.v (.agg [(.int .i64 a0_0), (.int .i64 a0_1), (.int .i64 a0_2), (.int .i64 a0_3), (.int .i64 a0_4)]), .v (.sl 33 a1z a1)]) 100000 k impl_QcFrom.K0 (impl_QcFrom.N0 x1z x1 x7 x31z x31 x32 x33 c2_0 c2_1 c2_2 c2_3 c2_4 c6_0 c6_1 c6_2z c6_2 c6_4z c6_4) = (impl_QcFrom.l0 k x1z x1 x7 x31z x31 x32 x33 c2_0 c2_1 c2_2 c2_3 c2_4 c6_0 c6_1 c6_2z c6_2 c6_4z c6_4).map impl_QcFrom.enc) ∧ (∀ (x1z : Bool) (x1 : List T) (x10z : Bool) (x10 : List T) (x74 : Int) (x75 : Int) (c6_0 : Int) (c6_1 : Int) (c6_2z : Bool) (c6_2 : List Int) (c6_3z : Bool) (c6_3 : List Int) (c6_4z : Bool) (c6_4 : List T), rounds Try.prog impl_QcFrom.Cs (finish Try.prog [] Try.f27 [.v (.agg [(.int .i64 a0_0), (.int .i64 a0_1), (.int .i64 a0_2), (.int .i64 a0_3), (.int .i64 a0_4)]), .v (.sl 33 a1z a1)]) 100000 k impl_QcFrom.K1 (impl_QcFrom.N1 x1z x1 x10z x10 x74 x75 c6_0 c6_1 c6_2z c6_2 c6_3z c6_3 c6_4z c6_4) = (impl_QcFrom.l1 k x1z x1 x10z x10 x74 x75 c6_0 c6_1 c6_2z c6_2 c6_3z c6_3 c6_4z c6_4).map impl_QcFrom.enc)
  | 0 => ⟨fun _ _ _ _ _ _ _ _ _ _ _ _ _ _ _ _ _ _ => rfl, fun _ _ _ _ _ _ _ _ _ _ _ _ _ _ => rfl⟩
  | k + 1 => by
    have ih := impl_QcFrom.rounds_eq a0_0 a0_1 a0_2 a0_3 a0_4 a1z a1 k
    refine ⟨fun _ _ _ _ _ _ _ _ _ _ _ _ _ _ _ _ _ _ => ?_, fun _ _ _ _ _ _ _ _ _ _ _ _ _ _ => ?_⟩
    · refine (impl_QcFrom.s0 k _ a0_0 a0_1 a0_2 a0_3 a0_4 a1z a1 _ _ _ _ _ _ _ _ _ _ _ _ _ _ _ _ _ _).trans (Eq.trans ?_ (impl_QcFrom.l0b_nat impl_QcFrom.enc some (impl_QcFrom.l0 k) (impl_QcFrom.l1 k) k _ _ _ _ _ _ _ _ _ _ _ _ _ _ _ _ _ _))
      simp only [ih.1, ih.2, Option.map_some]
    · refine (impl_QcFrom.s1 k _ a0_0 a0_1 a0_2 a0_3 a0_4 a1z a1 _ _ _ _ _ _ _ _ _ _ _ _ _ _).trans (Eq.trans ?_ (impl_QcFrom.l1b_nat impl_QcFrom.enc some (impl_QcFrom.l0 k) (impl_QcFrom.l1 k) k _ _ _ _ _ _ _ _ _ _ _ _ _ _))
      simp only [ih.1, ih.2, Option.map_some]
theorem impl_QcFrom.eq (k : Nat) (a0_0 : Int) (a0_1 : Int) (a0_2 : Int) (a0_3 : Int) (a0_4 : Int) (a1z : Bool) (a1 : List T) : answer Try.prog impl_QcFrom.Cs 100000 impl_QcFrom.cuts [] Try.f27 (k + 1) [.v (.agg [(.int .i64 a0_0), (.int .i64 a0_1), (.int .i64 a0_2), (.int .i64 a0_3), (.int .i64 a0_4)]), .v (.sl 33 a1z a1)] = (impl_QcFrom.f (k + 1) a0_0 a0_1 a0_2 a0_3 a0_4 a1z a1).map impl_QcFrom.enc := by
  have ih := impl_QcFrom.rounds_eq a0_0 a0_1 a0_2 a0_3 a0_4 a1z a1 k
  refine (impl_QcFrom.s k a0_0 a0_1 a0_2 a0_3 a0_4 a1z a1).trans (Eq.trans ?_ (impl_QcFrom.b_nat impl_QcFrom.enc some (impl_QcFrom.l0 k) (impl_QcFrom.l1 k) k a0_0 a0_1 a0_2 a0_3 a0_4 a1z a1))
  simp only [ih.1, ih.2, Option.map_some]
theorem impl_QcFrom.sound (k : Nat) : SoundF Try.prog 27 (fun a => (impl_QcFrom.ans k a).val) := by
  refine sound_plain (fun args res h => ?_) (fun t n => rfl)
  unfold impl_QcFrom.ans at h
  dsimp only at h
  split at h
  · cases k with
    | zero => cases h
    | succ k =>
      unfold Ans.val at h
      rw [← impl_QcFrom.eq] at h
      exact answer_sound mixed Try.func27 _ _ _ (k + 1) (fun j _ => tab_sound (tab_cons (impl_copyBytes.sound j) (tab_cons (impl_QcOk.sound j) (tab_cons (impl_QcVotes.sound j) (tab_cons (impl_VoteSame.sound j) (tab_cons (impl_BitsOf.sound j) (tab_nil))))))) _ _ h
  · exact (Ans.no_val h).elim

/-! loop.example/g00790/impl.TreeSame -/
def impl_TreeSame.b {R : Type} (ret : Bool → Option R) (j0 : Bool → (List T) → Bool → (List T) → Int → Int → Option R) (k : Nat) (a0z : Bool) (a0 : List T) (a1z : Bool) (a1 : List T) : Option R :=
  cond (!(decide (((a0).length : Int) = ((a1).length : Int)))) (ret false) (j0 a0z a0 a1z a1 ((a0).length : Int) 0)
def impl_TreeSame.l0b {R : Type} (ret : Bool → Option R) (j0 : Bool → (List T) → Bool → (List T) → Int → Int → Option R) (k : Nat) (x0z : Bool) (x0 : List T) (x1z : Bool) (x1 : List T) (x12 : Int) (x13 : Int) : Option R :=
  cond (decide (x13 < x12)) (cond (decide ((0 : Int) ≤ x13)) (cond (decide (x13 < ((x0).length : Int))) (cond (decide ((0 : Int) ≤ x13)) (cond (decide (x13 < ((x1).length : Int))) ((impl_SameBytes.f k (((((x0).getD (x13).toNat .bad).cells.getD 0 .bad)).isNil) (((((x0).getD (x13).toNat .bad).cells.getD 0 .bad)).toNums) (((((x1).getD (x13).toNat .bad).cells.getD 0 .bad)).isNil) (((((x1).getD (x13).toNat .bad).cells.getD 0 .bad)).toNums)).bind fun t0 => cond (!t0) (ret false) (j0 x0z x0 x1z x1 x12 (RowKit.wrap64 (x13 + 1)))) (none)) (none)) (none)) (none)) (ret true)
def impl_TreeSame.l0 : Nat → Bool → (List T) → Bool → (List T) → Int → Int → Option Bool
  | 0, _, _, _, _, _, _ => none
  | k + 1, x0z, x0, x1z, x1, x12, x13 => impl_TreeSame.l0b some (impl_TreeSame.l0 k) k x0z x0 x1z x1 x12 x13
def impl_TreeSame.f : Nat → Bool → (List T) → Bool → (List T) → Option Bool
  | 0, _, _, _, _ => none
  | k + 1, a0z, a0, a1z, a1 => impl_TreeSame.b some (impl_TreeSame.l0 k) k a0z a0 a1z a1
def impl_TreeSame.enc (r : Bool) : Res := ⟨[.vals false [((.bool r), true)]], []⟩
def impl_TreeSame.ans (k : Nat) : List Arg → Ans
  | [.v (.sl 22 a0z a0), .v (.sl 22 a1z a1)] => ⟨impl_TreeSame.f k a0z a0 a1z a1, impl_TreeSame.enc⟩
  | _ => Ans.no
def impl_TreeSame.Cs (k : Nat) : CallSem := tab [(32, impl_SameBytes.ans k)]
def impl_TreeSame.cuts : List (Nat × Keep) := [(58, ⟨[(0, some []), (1, some []), (12, some []), (13, some [])], []⟩)]
noncomputable def impl_TreeSame.K0 : List Fr := framesAt [true, true, false, true, false] (bodyOf Try.f95 impl_TreeSame.cuts) []
def impl_TreeSame.N0 (x0z : Bool) (x0 : List T) (x1z : Bool) (x1 : List T) (x12 : Int) (x13 : Int) : St := stOf 27 27 2 [(0, .val ⟨(.sl 22 x0z x0), [], false, none⟩), (1, .val ⟨(.sl 22 x1z x1), [], false, none⟩), (12, .val (V.s (.int .i64 x12))), (13, .val (V.s (.int .i64 x13)))] []
theorem impl_TreeSame.s (k : Nat) (a0z : Bool) (a0 : List T) (a1z : Bool) (a1 : List T) : answer Try.prog impl_TreeSame.Cs 100000 impl_TreeSame.cuts [] Try.f95 (k + 1) [.v (.sl 22 a0z a0), .v (.sl 22 a1z a1)] = impl_TreeSame.b (fun r => some (impl_TreeSame.enc r)) (fun x0z x0 x1z x1 x12 x13 => rounds Try.prog impl_TreeSame.Cs (finish Try.prog [] Try.f95 [.v (.sl 22 a0z a0), .v (.sl 22 a1z a1)]) 100000 k impl_TreeSame.K0 (impl_TreeSame.N0 x0z x0 x1z x1 x12 x13)) k a0z a0 a1z a1 := by kernel_rfl
theorem impl_TreeSame.s0 (k : Nat) (G : List Fr → St → Option Res) (a0z : Bool) (a0 : List T) (a1z : Bool) (a1 : List T) (yx0z : Bool) (yx0 : List T) (yx1z : Bool) (yx1 : List T) (yx12 : Int) (yx13 : Int) : resume Try.prog (impl_TreeSame.Cs k) G (finish Try.prog [] Try.f95 [.v (.sl 22 a0z a0), .v (.sl 22 a1z a1)]) 100000 impl_TreeSame.K0 (impl_TreeSame.N0 yx0z yx0 yx1z yx1 yx12 yx13) = impl_TreeSame.l0b (fun r => some (impl_TreeSame.enc r)) (fun x0z x0 x1z x1 x12 x13 => G impl_TreeSame.K0 (impl_TreeSame.N0 x0z x0 x1z x1 x12 x13)) k yx0z yx0 yx1z yx1 yx12 yx13 := by kernel_rfl
theorem impl_TreeSame.b_nat {R R' : Type} (e : R → R') (ret : Bool → Option R) (j0 : Bool → (List T) → Bool → (List T) → Int → Int → Option R) (k : Nat) (a0z : Bool) (a0 : List T) (a1z : Bool) (a1 : List T) : impl_TreeSame.b (fun r => (ret r).map e) (fun x0z x0 x1z x1 x12 x13 => (j0 x0z x0 x1z x1 x12 x13).map e) k a0z a0 a1z a1 = (impl_TreeSame.b ret j0 k a0z a0 a1z a1).map e := by
  unfold impl_TreeSame.b
  repeat' first | with_reducible refine nat_cond ?_ ?_ | with_reducible refine nat_bind fun _ => ?_ | rfl
theorem impl_TreeSame.l0b_nat {R R' : Type} (e : R → R') (ret : Bool → Option R) (j0 : Bool → (List T) → Bool → (List T) → Int → Int → Option R) (k : Nat) (x0z : Bool) (x0 : List T) (x1z : Bool) (x1 : List T) (x12 : Int) (x13 : Int) : impl_TreeSame.l0b (fun r => (ret r).map e) (fun x0z x0 x1z x1 x12 x13 => (j0 x0z x0 x1z x1 x12 x13).map e) k x0z x0 x1z x1 x12 x13 = (impl_TreeSame.l0b ret j0 k x0z x0 x1z x1 x12 x13).map e := by
  unfold impl_TreeSame.l0b
  repeat' first | with_reducible refine nat_cond ?_ ?_ | with_reducible refine nat_bind fun _ => ?_ | rfl
theorem impl_TreeSame.rounds_eq (a0z : Bool) (a0 : List T) (a1z : Bool) (a1 : List T) : ∀ k, (∀ (x0z : Bool) (x0 : List T) (x1z : Bool) (x1 : List T) (x12 : Int) (x13 : Int), rounds Try.prog impl_TreeSame.Cs (finish Try.prog [] Try.f95 [.v (.sl 22 a0z a0), .v (.sl 22 a1z a1)]) 100000 k impl_TreeSame.K0 (impl_TreeSame.N0 x0z x0 x1z x1 x12 x13) = (impl_TreeSame.l0 k x0z x0 x1z x1 x12 x13).map impl_TreeSame.enc)
  | 0 => fun _ _ _ _ _ _ => rfl
  | k + 1 => by
    have ih := impl_TreeSame.rounds_eq a0z a0 a1z a1 k
    refine fun _ _ _ _ _ _ => ?_
    · refine (impl_TreeSame.s0 k _ a0z a0 a1z a1 _ _ _ _ _ _).trans (Eq.trans ?_ (impl_TreeSame.l0b_nat impl_TreeSame.enc some (impl_TreeSame.l0 k) k _ _ _ _ _ _))
      simp only [ih, Option.map_some]
theorem impl_TreeSame.eq (k : Nat) (a0z : Bool) (a0 : List T) (a1z : Bool) (a1 : List T) : answer Try.prog impl_TreeSame.Cs 100000 impl_TreeSame.cuts [] Try.f95 (k + 1) [.v (.sl 22 a0z a0), .v (.sl 22 a1z a1)] = (impl_TreeSame.f (k + 1) a0z a0 a1z a1).map impl_TreeSame.enc := by
  have ih := impl_TreeSame.rounds_eq a0z a0 a1z a1 k
  refine (impl_TreeSame.s k a0z a0 a1z a1).trans (Eq.trans ?_ (impl_TreeSame.b_nat impl_TreeSame.enc some (impl_TreeSame.l0 k) k a0z a0 a1z a1))
  simp only [ih, Option.map_some]
theorem impl_TreeSame.sound (k : Nat) : SoundF Try.prog 95 (fun a => (impl_TreeSame.ans k a).val) := by
  refine sound_plain (fun args res h => ?_) (fun t n => rfl)
  unfold impl_TreeSame.ans at h
  dsimp only at h
  split at h
  · cases k with
    | zero => cases h
    | succ k =>
      unfold Ans.val at h
      rw [← impl_TreeSame.eq] at h
      exact answer_sound mixed Try.func95 _ _ _ (k + 1) (fun j _ => tab_sound (tab_cons (impl_SameBytes.sound j) (tab_nil))) _ _ h
  · exact (Ans.no_val h).elim

/-! loop.example/g00790/impl.QcSame -/
def impl_QcSame.b {R : Type} (ret : Bool → Option R) (k : Nat) (a0_0 : Int) (a0_1 : Int) (a0_2z : Bool) (a0_2 : List Int) (a0_3z : Bool) (a0_3 : List Int) (a0_4z : Bool) (a0_4 : List T) (a1_0 : Int) (a1_1 : Int) (a1_2z : Bool) (a1_2 : List Int) (a1_3z : Bool) (a1_3 : List Int) (a1_4z : Bool) (a1_4 : List T) : Option R :=
  cond (decide (a0_0 = a1_0)) (cond (decide (a0_1 = a1_1)) ((impl_SameBytes.f k a0_2z a0_2 a1_2z a1_2).bind fun t0 => cond t0 ((impl_SameBytes.f k a0_3z a0_3 a1_3z a1_3).bind fun t1 => cond t1 ((impl_TreeSame.f k a0_4z a0_4 a1_4z a1_4).bind fun t2 => ret t2) (ret false)) (ret false)) (ret false)) (ret false)
def impl_QcSame.f : Nat → Int → Int → Bool → (List Int) → Bool → (List Int) → Bool → (List T) → Int → Int → Bool → (List Int) → Bool → (List Int) → Bool → (List T) → Option Bool
  | 0, _, _, _, _, _, _, _, _, _, _, _, _, _, _, _, _ => none
  | k + 1, a0_0, a0_1, a0_2z, a0_2, a0_3z, a0_3, a0_4z, a0_4, a1_0, a1_1, a1_2z, a1_2, a1_3z, a1_3, a1_4z, a1_4 => impl_QcSame.b some k a0_0 a0_1 a0_2z a0_2 a0_3z a0_3 a0_4z a0_4 a1_0 a1_1 a1_2z a1_2 a1_3z a1_3 a1_4z a1_4
def impl_QcSame.enc (r : Bool) : Res := ⟨[.vals false [((.bool r), true)]], []⟩
def impl_QcSame.ans (k : Nat) : List Arg → Ans
  | [.v (.agg [(.int .i64 a0_0), (.int .i64 a0_1), (.nums 5 .u8 a0_2z a0_2), (.nums 5 .u8 a0_3z a0_3), (.sl 22 a0_4z a0_4)]), .v (.agg [(.int .i64 a1_0), (.int .i64 a1_1), (.nums 5 .u8 a1_2z a1_2), (.nums 5 .u8 a1_3z a1_3), (.sl 22 a1_4z a1_4)])] => ⟨impl_QcSame.f k a0_0 a0_1 a0_2z a0_2 a0_3z a0_3 a0_4z a0_4 a1_0 a1_1 a1_2z a1_2 a1_3z a1_3 a1_4z a1_4, impl_QcSame.enc⟩
  | _ => Ans.no
def impl_QcSame.Cs (k : Nat) : CallSem := tab [(32, impl_SameBytes.ans k), (95, impl_TreeSame.ans k)]
def impl_QcSame.cuts : List (Nat × Keep) := []
theorem impl_QcSame.s (k : Nat) (a0_0 : Int) (a0_1 : Int) (a0_2z : Bool) (a0_2 : List Int) (a0_3z : Bool) (a0_3 : List Int) (a0_4z : Bool) (a0_4 : List T) (a1_0 : Int) (a1_1 : Int) (a1_2z : Bool) (a1_2 : List Int) (a1_3z : Bool) (a1_3 : List Int) (a1_4z : Bool) (a1_4 : List T) : answer Try.prog impl_QcSame.Cs 100000 impl_QcSame.cuts [] Try.f28 (k + 1) [.v (.agg [(.int .i64 a0_0), (.int .i64 a0_1), (.nums 5 .u8 a0_2z a0_2), (.nums 5 .u8 a0_3z a0_3), (.sl 22 a0_4z a0_4)]), .v (.agg [(.int .i64 a1_0), (.int .i64 a1_1), (.nums 5 .u8 a1_2z a1_2), (.nums 5 .u8 a1_3z a1_3), (.sl 22 a1_4z a1_4)])] = impl_QcSame.b (fun r => some (impl_QcSame.enc r)) k a0_0 a0_1 a0_2z a0_2 a0_3z a0_3 a0_4z a0_4 a1_0 a1_1 a1_2z a1_2 a1_3z a1_3 a1_4z a1_4 := by kernel_rfl
theorem impl_QcSame.b_nat {R R' : Type} (e : R → R') (ret : Bool → Option R) (k : Nat) (a0_0 : Int) (a0_1 : Int) (a0_2z : Bool) (a0_2 : List Int) (a0_3z : Bool) (a0_3 : List Int) (a0_4z : Bool) (a0_4 : List T) (a1_0 : Int) (a1_1 : Int) (a1_2z : Bool) (a1_2 : List Int) (a1_3z : Bool) (a1_3 : List Int) (a1_4z : Bool) (a1_4 : List T) : impl_QcSame.b (fun r => (ret r).map e) k a0_0 a0_1 a0_2z a0_2 a0_3z a0_3 a0_4z a0_4 a1_0 a1_1 a1_2z a1_2 a1_3z a1_3 a1_4z a1_4 = (impl_QcSame.b ret k a0_0 a0_1 a0_2z a0_2 a0_3z a0_3 a0_4z a0_4 a1_0 a1_1 a1_2z a1_2 a1_3z a1_3 a1_4z a1_4).map e := by
  unfold impl_QcSame.b
  repeat' first | with_reducible refine nat_cond ?_ ?_ | with_reducible refine nat_bind fun _ => ?_ | rfl
theorem impl_QcSame.eq (k : Nat) (a0_0 : Int) (a0_1 : Int) (a0_2z : Bool) (a0_2 : List Int) (a0_3z : Bool) (a0_3 : List Int) (a0_4z : Bool) (a0_4 : List T) (a1_0 : Int) (a1_1 : Int) (a1_2z : Bool) (a1_2 : List Int) (a1_3z : Bool) (a1_3 : List Int) (a1_4z : Bool) (a1_4 : List T) : answer Try.prog impl_QcSame.Cs 100000 impl_QcSame.cuts [] Try.f28 (k + 1) [.v (.agg [(.int .i64 a0_0), (.int .i64 a0_1), (.nums 5 .u8 a0_2z a0_2), (.nums 5 .u8 a0_3z a0_3), (.sl 22 a0_4z a0_4)]), .v (.agg [(.int .i64 a1_0), (.int .i64 a1_1), (.nums 5 .u8 a1_2z a1_2), (.nums 5 .u8 a1_3z a1_3), (.sl 22 a1_4z a1_4)])] = (impl_QcSame.f (k + 1) a0_0 a0_1 a0_2z a0_2 a0_3z a0_3 a0_4z a0_4 a1_0 a1_1 a1_2z a1_2 a1_3z a1_3 a1_4z a1_4).map impl_QcSame.enc := by
  refine (impl_QcSame.s k a0_0 a0_1 a0_2z a0_2 a0_3z a0_3 a0_4z a0_4 a1_0 a1_1 a1_2z a1_2 a1_3z a1_3 a1_4z a1_4).trans (Eq.trans ?_ (impl_QcSame.b_nat impl_QcSame.enc some k a0_0 a0_1 a0_2z a0_2 a0_3z a0_3 a0_4z a0_4 a1_0 a1_1 a1_2z a1_2 a1_3z a1_3 a1_4z a1_4))
  simp only [Option.map_some]
theorem impl_QcSame.sound (k : Nat) : SoundF Try.prog 28 (fun a => (impl_QcSame.ans k a).val) := by
  refine sound_plain (fun args res h => ?_) (fun t n => rfl)
  unfold impl_QcSame.ans at h
  dsimp only at h
  split at h
  · cases k with
    | zero => cases h
    | succ k =>
      unfold Ans.val at h
      rw [← impl_QcSame.eq] at h
      exact answer_sound mixed Try.func28 _ _ _ (k + 1) (fun j _ => tab_sound (tab_cons (impl_SameBytes.sound j) (tab_cons (impl_TreeSame.sound j) (tab_nil)))) _ _ h
  · exact (Ans.no_val h).elim

/-! loop.example/g00790/laws.FnQc -/
def laws_FnQc.b {R : Type} (ret : Bool → Option R) (j0 : Bool → (List T) → Bool → (List T) → Int → Int → Int → Int → Int → Int → Int → Bool → (List T) → Int → Int → Bool → (List Int) → Bool → (List Int) → Bool → (List T) → Option R) (k : Nat) (a0z : Bool) (a0 : List Int) : Option R :=
  cond (decide (((a0).length : Int) > 1048576)) (ret true) ((spec_MakeTable.f k a0z a0).bind fun t0 => (spec_MakeBits.f k a0z a0 t0.1 1).bind fun t1 => (spec_MakeHash.f k a0z a0 1).bind fun t2 => (impl_BuildQc.f k t0.1 t0.2.1 t0.2.2.1 t0.2.2.2.1 t0.2.2.2.2.1 t0.2.2.2.2.2.1 t0.2.2.2.2.2.2 7 5 t2.1 t2.2 t1.1 t1.2).bind fun t3 => (impl_QcVotes.f k t3.1 t3.2.1 t3.2.2.1 t3.2.2.2.1 t3.2.2.2.2.1 t3.2.2.2.2.2.1 t3.2.2.2.2.2.2.1 t3.2.2.2.2.2.2.2.1).bind fun t4 => cond (!t3.2.2.2.2.2.2.2.2) (ret false) ((impl_BitsCount.f k t1.1 t1.2).bind fun t5 => cond (!(decide (((t4.2).length : Int) = t5))) (ret false) (j0 t4.1 t4.2 t4.1 t4.2 ((t4.2).length : Int) 0 t0.1 t0.2.1 t0.2.2.1 t0.2.2.2.1 t0.2.2.2.2.1 t0.2.2.2.2.2.1 t0.2.2.2.2.2.2 t3.1 t3.2.1 t3.2.2.1 t3.2.2.2.1 t3.2.2.2.2.1 t3.2.2.2.2.2.1 t3.2.2.2.2.2.2.1 t3.2.2.2.2.2.2.2.1)))
def laws_FnQc.l0b {R : Type} (ret : Bool → Option R) (j0 : Bool → (List T) → Bool → (List T) → Int → Int → Int → Int → Int → Int → Int → Bool → (List T) → Int → Int → Bool → (List Int) → Bool → (List Int) → Bool → (List T) → Option R) (k : Nat) (x8z : Bool) (x8 : List T) (x45z : Bool) (x45 : List T) (x46 : Int) (x47 : Int) (c3_0 : Int) (c3_1 : Int) (c3_2 : Int) (c3_3 : Int) (c3_4 : Int) (c4_0z : Bool) (c4_0 : List T) (c6_0 : Int) (c6_1 : Int) (c6_2z : Bool) (c6_2 : List Int) (c6_3z : Bool) (c6_3 : List Int) (c6_4z : Bool) (c6_4 : List T) : Option R :=
  cond (decide (x47 < x46)) (cond (decide ((0 : Int) ≤ x47)) (cond (decide (x47 < ((x45).length : Int))) ((impl_VoteGood.f k c4_0z c4_0 (((((x45).getD (x47).toNat .bad).cells.getD 0 .bad)).toInt) (((((x45).getD (x47).toNat .bad).cells.getD 1 .bad)).toInt) (((((x45).getD (x47).toNat .bad).cells.getD 2 .bad)).isNil) (((((x45).getD (x47).toNat .bad).cells.getD 2 .bad)).toNums) (((((x45).getD (x47).toNat .bad).cells.getD 3 .bad)).toInt) (((((x45).getD (x47).toNat .bad).cells.getD 4 .bad)).isNil) (((((x45).getD (x47).toNat .bad).cells.getD 4 .bad)).toNums)).bind fun t0 => cond (!t0) (ret false) ((impl_VoteOk.f k c3_0 c3_1 c3_2 c3_3 c3_4 (((((x45).getD (x47).toNat .bad).cells.getD 0 .bad)).toInt) (((((x45).getD (x47).toNat .bad).cells.getD 1 .bad)).toInt) (((((x45).getD (x47).toNat .bad).cells.getD 2 .bad)).isNil) (((((x45).getD (x47).toNat .bad).cells.getD 2 .bad)).toNums) (((((x45).getD (x47).toNat .bad).cells.getD 3 .bad)).toInt) (((((x45).getD (x47).toNat .bad).cells.getD 4 .bad)).isNil) (((((x45).getD (x47).toNat .bad).cells.getD 4 .bad)).toNums)).bind fun t1 => cond (!t1) (ret false) (j0 x8z x8 x8z x8 x46 (RowKit.wrap64 (x47 + 1)) c3_0 c3_1 c3_2 c3_3 c3_4 c4_0z c4_0 c6_0 c6_1 c6_2z c6_2 c6_3z c6_3 c6_4z c6_4))) (none)) (none)) ((impl_QcFrom.f k c3_0 c3_1 c3_2 c3_3 c3_4 x8z x8).bind fun t0 => cond (t0.2.2.2.2.2.2.2.2 == decide (((x8).length : Int) > 0)) (cond (!t0.2.2.2.2.2.2.2.2) (ret true) ((impl_QcSame.f k t0.1 t0.2.1 t0.2.2.1 t0.2.2.2.1 t0.2.2.2.2.1 t0.2.2.2.2.2.1 t0.2.2.2.2.2.2.1 t0.2.2.2.2.2.2.2.1 c6_0 c6_1 c6_2z c6_2 c6_3z c6_3 c6_4z c6_4).bind fun t1 => ret t1)) (ret false))
def laws_FnQc.l0 : Nat → Bool → (List T) → Bool → (List T) → Int → Int → Int → Int → Int → Int → Int → Bool → (List T) → Int → Int → Bool → (List Int) → Bool → (List Int) → Bool → (List T) → Option Bool
  | 0, _, _, _, _, _, _, _, _, _, _, _, _, _, _, _, _, _, _, _, _, _ => none
  | k + 1, x8z, x8, x45z, x45, x46, x47, c3_0, c3_1, c3_2, c3_3, c3_4, c4_0z, c4_0, c6_0, c6_1, c6_2z, c6_2, c6_3z, c6_3, c6_4z, c6_4 => laws_FnQc.l0b some (laws_FnQc.l0 k) k x8z x8 x45z x45 x46 x47 c3_0 c3_1 c3_2 c3_3 c3_4 c4_0z c4_0 c6_0 c6_1 c6_2z c6_2 c6_3z c6_3 c6_4z c6_4
def laws_FnQc.f : Nat → Bool → (List Int) → Option Bool
  | 0, _, _ => none
  | k + 1, a0z, a0 => laws_FnQc.b some (laws_FnQc.l0 k) k a0z a0
def laws_FnQc.enc (r : Bool) : Res := ⟨[.vals false [((.bool r), true)]], []⟩
def laws_FnQc.ans (k : Nat) : List Arg → Ans
  | [.v (.nums 5 .u8 a0z a0)] => ⟨laws_FnQc.f k a0z a0, laws_FnQc.enc⟩
  | _ => Ans.no
def laws_FnQc.Cs (k : Nat) : CallSem := tab [(12, spec_MakeTable.ans k), (22, spec_MakeBits.ans k), (14, spec_MakeHash.ans k), (23, impl_BuildQc.ans k), (25, impl_BitsCount.ans k), (24, impl_QcVotes.ans k), (17, impl_VoteGood.ans k), (26, impl_VoteOk.ans k), (27, impl_QcFrom.ans k), (28, impl_QcSame.ans k)]
def laws_FnQc.cuts : List (Nat × Keep) := [(2042, ⟨[(3, some []), (4, some []), (6, some []), (8, none), (45, none), (46, some []), (47, some [])], [(3, [some [], some [], some [], some [], some []]), (4, [none]), (6, [some [], some [], none, none, none])]⟩)]
noncomputable def laws_FnQc.K0 : List Fr := framesAt [true, true, true, true, true, true, true, false, true, false] (bodyOf Try.f4 laws_FnQc.cuts) []
def laws_FnQc.N0 (x8z : Bool) (x8 : List T) (x45z : Bool) (x45 : List T) (x46 : Int) (x47 : Int) (c3_0 : Int) (c3_1 : Int) (c3_2 : Int) (c3_3 : Int) (c3_4 : Int) (c4_0z : Bool) (c4_0 : List T) (c6_0 : Int) (c6_1 : Int) (c6_2z : Bool) (c6_2 : List Int) (c6_3z : Bool) (c6_3 : List Int) (c6_4z : Bool) (c6_4 : List T) : St := stOf 82 82 1 [(3, .bp 3 0), (4, .bp 4 0), (6, .bp 6 0), (8, .val ⟨(.sl 33 x8z x8), [.l 45 0], true, some (.l 45 0)⟩), (45, .val ⟨(.sl 33 x45z x45), [.l 45 0], true, some (.l 45 0)⟩), (46, .val (V.s (.int .i64 x46))), (47, .val (V.s (.int .i64 x47)))] [(3, .cells [V.s (.int .i64 c3_0), V.s (.int .i64 c3_1), V.s (.int .i64 c3_2), V.s (.int .i64 c3_3), V.s (.int .i64 c3_4)]), (4, .cells [⟨(.sl 44 c4_0z c4_0), [.l 4 1], true, some (.l 4 1)⟩]), (6, .cells [V.s (.int .i64 c6_0), V.s (.int .i64 c6_1), ⟨(.nums 5 .u8 c6_2z c6_2), [.l 6 3], true, some (.l 6 3)⟩, ⟨(.nums 5 .u8 c6_3z c6_3), [.l 6 4], true, some (.l 6 4)⟩, ⟨(.sl 22 c6_4z c6_4), [.l 6 5], true, some (.l 6 5)⟩])]
theorem laws_FnQc.s (k : Nat) (a0z : Bool) (a0 : List Int) : answer Try.prog laws_FnQc.Cs 100000 laws_FnQc.cuts [] Try.f4 (k + 1) [.v (.nums 5 .u8 a0z a0)] = laws_FnQc.b (fun r => some (laws_FnQc.enc r)) (fun x8z x8 x45z x45 x46 x47 c3_0 c3_1 c3_2 c3_3 c3_4 c4_0z c4_0 c6_0 c6_1 c6_2z c6_2 c6_3z c6_3 c6_4z c6_4 => rounds Try.prog laws_FnQc.Cs (finish Try.prog [] Try.f4 [.v (.nums 5 .u8 a0z a0)]) 100000 k laws_FnQc.K0 (laws_FnQc.N0 x8z x8 x45z x45 x46 x47 c3_0 c3_1 c3_2 c3_3 c3_4 c4_0z c4_0 c6_0 c6_1 c6_2z c6_2 c6_3z c6_3 c6_4z c6_4)) k a0z a0 := by kernel_rfl
theorem laws_FnQc.s0 (k : Nat) (G : List Fr → St → Option Res) (a0z : Bool) (a0 : List Int) (yx8z : Bool) (yx8 : List T) (yx45z : Bool) (yx45 : List T) (yx46 : Int) (yx47 : Int) (yc3_0 : Int) (yc3_1 : Int) (yc3_2 : Int) (yc3_3 : Int) (yc3_4 : Int) (yc4_0z : Bool) (yc4_0 : List T) (yc6_0 : Int) (yc6_1 : Int) (yc6_2z : Bool) (yc6_2 : List Int) (yc6_3z : Bool) (yc6_3 : List Int) (yc6_4z : Bool) (yc6_4 : List T) : resume Try.prog (laws_FnQc.Cs k) G (finish Try.prog [] Try.f4 [.v (.nums 5 .u8 a0z a0)]) 100000 laws_FnQc.K0 (laws_FnQc.N0 yx8z yx8 yx45z yx45 yx46 yx47 yc3_0 yc3_1 yc3_2 yc3_3 yc3_4 yc4_0z yc4_0 yc6_0 yc6_1 yc6_2z yc6_2 yc6_3z yc6_3 yc6_4z yc6_4) = laws_FnQc.l0b (fun r => some (laws_FnQc.enc r)) (fun x8z x8 x45z x45 x46 x47 c3_0 c3_1 c3_2 c3_3 c3_4 c4_0z c4_0 c6_0 c6_1 c6_2z c6_2 c6_3z c6_3 c6_4z c6_4 => G laws_FnQc.K0 (laws_FnQc.N0 x8z x8 x45z x45 x46 x47 c3_0 c3_1 c3_2 c3_3 c3_4 c4_0z c4_0 c6_0 c6_1 c6_2z c6_2 c6_3z c6_3 c6_4z c6_4)) k yx8z yx8 yx45z yx45 yx46 yx47 yc3_0 yc3_1 yc3_2 yc3_3 yc3_4 yc4_0z yc4_0 yc6_0 yc6_1 yc6_2z yc6_2 yc6_3z yc6_3 yc6_4z yc6_4 := by kernel_rfl
theorem laws_FnQc.b_nat {R R' : Type} (e : R → R') (ret : Bool → Option R) (j0 : Bool → (List T) → Bool → (List T) → Int → Int → Int → Int → Int → Int → Int → Bool → (List T) → Int → Int → Bool → (List Int) → Bool → (List Int) → Bool → (List T) → Option R) (k : Nat) (a0z : Bool) (a0 : List Int) : laws_FnQc.b (fun r => (ret r).map e) (fun x8z x8 x45z x45 x46 x47 c3_0 c3_1 c3_2 c3_3 c3_4 c4_0z c4_0 c6_0 c6_1 c6_2z c6_2 c6_3z c6_3 c6_4z c6_4 => (j0 x8z x8 x45z x45 x46 x47 c3_0 c3_1 c3_2 c3_3 c3_4 c4_0z c4_0 c6_0 c6_1 c6_2z c6_2 c6_3z c6_3 c6_4z c6_4).map e) k a0z a0 = (laws_FnQc.b ret j0 k a0z a0).map e := by
  unfold laws_FnQc.b
  repeat' first | with_reducible refine nat_cond ?_ ?_ | with_reducible refine nat_bind fun _ => ?_ | rfl
theorem laws_FnQc.l0b_nat {R R' : Type} (e : R → R') (ret : Bool → Option R) (j0 : Bool → (List T) → Bool → (List T) → Int → Int → Int → Int → Int → Int → Int → Bool → (List T) → Int → Int → Bool → (List Int) → Bool → (List Int) → Bool → (List T) → Option R) (k : Nat) (x8z : Bool) (x8 : List T) (x45z : Bool) (x45 : List T) (x46 : Int) (x47 : Int) (c3_0 : Int) (c3_1 : Int) (c3_2 : Int) (c3_3 : Int) (c3_4 : Int) (c4_0z : Bool) (c4_0 : List T) (c6_0 : Int) (c6_1 : Int) (c6_2z : Bool) (c6_2 : List Int) (c6_3z : Bool) (c6_3 : List Int) (c6_4z : Bool) (c6_4 : List T) : laws_FnQc.l0b (fun r => (ret r).map e) (fun x8z x8 x45z x45 x46 x47 c3_0 c3_1 c3_2 c3_3 c3_4 c4_0z c4_0 c6_0 c6_1 c6_2z c6_2 c6_3z c6_3 c6_4z c6_4 => (j0 x8z x8 x45z x45 x46 x47 c3_0 c3_1 c3_2 c3_3 c3_4 c4_0z c4_0 c6_0 c6_1 c6_2z c6_2 c6_3z c6_3 c6_4z c6_4).map e) k x8z x8 x45z x45 x46 x47 c3_0 c3_1 c3_2 c3_3 c3_4 c4_0z c4_0 c6_0 c6_1 c6_2z c6_2 c6_3z c6_3 c6_4z c6_4 = (laws_FnQc.l0b ret j0 k x8z x8 x45z x45 x46 x47 c3_0 c3_1 c3_2 c3_3 c3_4 c4_0z c4_0 c6_0 c6_1 c6_2z c6_2 c6_3z c6_3 c6_4z c6_4).map e := by
  unfold laws_FnQc.l0b
  repeat' first | with_reducible refine nat_cond ?_ ?_ | with_reducible refine nat_bind fun _ => ?_ | rfl
theorem laws_FnQc.rounds_eq (a0z : Bool) (a0 : List Int) : ∀ k, (∀ (x8z : Bool) (x8 : List T) (x45z : Bool) (x45 : List T) (x46 : Int) (x47 : Int) (c3_0 : Int) (c3_1 : Int) (c3_2 : Int) (c3_3 : Int) (c3_4 : Int) (c4_0z : Bool) (c4_0 : List T) (c6_0 : Int) (c6_1 : Int) (c6_2z : Bool) (c6_2 : List Int) (c6_3z : Bool) (c6_3 : List Int) (c6_4z : Bool) (c6_4 : List T), rounds Try.prog laws_FnQc.Cs (finish Try.prog [] Try.f4 [.v (.nums 5 .u8 a0z a0)]) 100000 k laws_FnQc.K0 (laws_FnQc.N0 x8z x8 x45z x45 x46 x47 c3_0 c3_1 c3_2 c3_3 c3_4 c4_0z c4_0 c6_0 c6_1 c6_2z c6_2 c6_3z c6_3 c6_4z c6_4) = (laws_FnQc.l0 k x8z x8 x45z x45 x46 x47 c3_0 c3_1 c3_2 c3_3 c3_4 c4_0z c4_0 c6_0 c6_1 c6_2z c6_2 c6_3z c6_3 c6_4z c6_4).map laws_FnQc.enc)
  | 0 => fun _ _ _ _ _ _ _ _ _ _ _ _ _ _ _ _ _ _ _ _ _ => rfl
  | k + 1 => by
    have ih := laws_FnQc.rounds_eq a0z a0 k
    refine fun _ _ _ _ _ _ _ _ _ _ _ _ _ _ _ _ _ _ _ _ _ => ?_
    · refine (laws_FnQc.s0 k _ a0z a0 _ _ _ _ _ _ _ _ _ _ _ _ _ _ _ _ _ _ _ _ _).trans (Eq.trans ?_ (laws_FnQc.l0b_nat laws_FnQc.enc some (laws_FnQc.l0 k) k _ _ _ _ _ _ _ _ _ _ _ _ _ _ _ _ _ _ _ _ _))
      simp only [ih, Option.map_some]
theorem laws_FnQc.eq (k : Nat) (a0z : Bool) (a0 : List Int) : answer Try.prog laws_FnQc.Cs 100000 laws_FnQc.cuts [] Try.f4 (k + 1) [.v (.nums 5 .u8 a0z a0)] = (laws_FnQc.f (k + 1) a0z a0).map laws_FnQc.enc := by
  have ih := laws_FnQc.rounds_eq a0z a0 k
  refine (laws_FnQc.s k a0z a0).trans (Eq.trans ?_ (laws_FnQc.b_nat laws_FnQc.enc some (laws_FnQc.l0 k) k a0z a0))
  simp only [ih, Option.map_some]
theorem laws_FnQc.sound (k : Nat) : SoundF Try.prog 4 (fun a => (laws_FnQc.ans k a).val) := by
  refine sound_plain (fun args res h => ?_) (fun t n => rfl)
  unfold laws_FnQc.ans at h
  dsimp only at h
  split at h
  · cases k with
    | zero => cases h
    | succ k =>
      unfold Ans.val at h
      rw [← laws_FnQc.eq] at h
      exact answer_sound mixed Try.func4 _ _ _ (k + 1) (fun j _ => tab_sound (tab_cons (spec_MakeTable.sound j) (tab_cons (spec_MakeBits.sound j) (tab_cons (spec_MakeHash.sound j) (tab_cons (impl_BuildQc.sound j) (tab_cons (impl_BitsCount.sound j) (tab_cons (impl_QcVotes.sound j) (tab_cons (impl_VoteGood.sound j) (tab_cons (impl_VoteOk.sound j) (tab_cons (impl_QcFrom.sound j) (tab_cons (impl_QcSame.sound j) (tab_nil)))))))))))) _ _ h
  · exact (Ans.no_val h).elim
end Go.Proofs.YtbpcnodmgphinaaG
