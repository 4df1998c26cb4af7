/- What the functions compute, printed by a program of this repo; each is shown to be what the machine of values answers. No condition. -/
import Derived.Test.YtlfliciohaebfaaProg
import Derived.KernelRfl
import Derived.Test.YtlfliciohaebfaaGFnExactBlamed
namespace Go.Proofs.YtlfliciohaebfaaG
open Go Go.Proofs.YtlfliciohaebfaaRv Go.Proofs
set_option linter.unusedVariables false
set_option linter.unusedSimpArgs false
/-! loop.example/g00790/impl.whoOf -/
def impl_whoOf.b {R : Type} (ret : Bool × List Int → Option R) (j0 : Bool → Bool → (List T) → Int → Int → Bool → (List Int) → Bool → (List Int) → Bool → (List T) → Int → Int → Bool → (List Int) → Bool → (List Int) → Bool → (List T) → (List Int) → Int → Int → Bool → (List T) → Option R) (k : Nat) (a0_0z : Bool) (a0_0 : List T) (a1_0_0 : Bool) (a1_1_0z : Bool) (a1_1_0 : List T) (a1_2_0 : Int) (a1_2_1 : Int) (a1_2_2z : Bool) (a1_2_2 : List Int) (a1_2_3z : Bool) (a1_2_3 : List Int) (a1_2_4z : Bool) (a1_2_4 : List T) (a1_4_0 : Int) (a1_4_1 : Int) (a1_4_2z : Bool) (a1_4_2 : List Int) (a1_4_3z : Bool) (a1_4_3 : List Int) (a1_4_4z : Bool) (a1_4_4 : List T) : Option R :=
  (impl_TableOk.f k a0_0z a0_0).bind fun t0 => cond (!t0) (ret (true, ([] : List Int))) (j0 a1_0_0 a1_1_0z a1_1_0 a1_2_0 a1_2_1 a1_2_2z a1_2_2 a1_2_3z a1_2_3 a1_2_4z a1_2_4 a1_4_0 a1_4_1 a1_4_2z a1_4_2 a1_4_3z a1_4_3 a1_4_4z a1_4_4 ([] : List Int) ((a0_0).length : Int) 0 a0_0z a0_0)
def impl_whoOf.l0b {R : Type} (ret : Bool × List Int → Option R) (j0 : Bool → Bool → (List T) → Int → Int → Bool → (List Int) → Bool → (List Int) → Bool → (List T) → Int → Int → Bool → (List Int) → Bool → (List Int) → Bool → (List T) → (List Int) → Int → Int → Bool → (List T) → Option R) (k : Nat) (x1_0_0 : Bool) (x1_1_0z : Bool) (x1_1_0 : List T) (x1_2_0 : Int) (x1_2_1 : Int) (x1_2_2z : Bool) (x1_2_2 : List Int) (x1_2_3z : Bool) (x1_2_3 : List Int) (x1_2_4z : Bool) (x1_2_4 : List T) (x1_4_0 : Int) (x1_4_1 : Int) (x1_4_2z : Bool) (x1_4_2 : List Int) (x1_4_3z : Bool) (x1_4_3 : List Int) (x1_4_4z : Bool) (x1_4_4 : List T) (x5 : List Int) (x15 : Int) (x16 : Int) (c2_0z : Bool) (c2_0 : List T) : Option R :=
  cond (decide (x16 < x15)) ((impl_Blame_2.f k x16 x1_0_0 x1_1_0z x1_1_0 x1_2_0 x1_2_1 x1_2_2z x1_2_2 x1_2_3z x1_2_3 x1_2_4z x1_2_4 x1_4_0 x1_4_1 x1_4_2z x1_4_2 x1_4_3z x1_4_3 x1_4_4z x1_4_4).bind fun t0 => cond t0 (cond (decide ((x5).length + 1 < 17592186044416)) (j0 x1_0_0 x1_1_0z x1_1_0 x1_2_0 x1_2_1 x1_2_2z x1_2_2 x1_2_3z x1_2_3 x1_2_4z x1_2_4 x1_4_0 x1_4_1 x1_4_2z x1_4_2 x1_4_3z x1_4_3 x1_4_4z x1_4_4 (x5 ++ ([x16] : List Int)) x15 (RowKit.wrap64 (x16 + 1)) c2_0z c2_0) (none)) (j0 x1_0_0 x1_1_0z x1_1_0 x1_2_0 x1_2_1 x1_2_2z x1_2_2 x1_2_3z x1_2_3 x1_2_4z x1_2_4 x1_4_0 x1_4_1 x1_4_2z x1_4_2 x1_4_3z x1_4_3 x1_4_4z x1_4_4 x5 x15 (RowKit.wrap64 (x16 + 1)) c2_0z c2_0)) ((impl_BitsOf.f k false x5 ((c2_0).length : Int)).bind fun t0 => ret (t0.1, t0.2.1))
def impl_whoOf.l0 : Nat → Bool → Bool → (List T) → Int → Int → Bool → (List Int) → Bool → (List Int) → Bool → (List T) → Int → Int → Bool → (List Int) → Bool → (List Int) → Bool → (List T) → (List Int) → Int → Int → Bool → (List T) → Option (Bool × List Int)
  | 0, _, _, _, _, _, _, _, _, _, _, _, _, _, _, _, _, _, _, _, _, _, _, _, _ => none
  | k + 1, x1_0_0, x1_1_0z, x1_1_0, x1_2_0, x1_2_1, x1_2_2z, x1_2_2, x1_2_3z, x1_2_3, x1_2_4z, x1_2_4, x1_4_0, x1_4_1, x1_4_2z, x1_4_2, x1_4_3z, x1_4_3, x1_4_4z, x1_4_4, x5, x15, x16, c2_0z, c2_0 => impl_whoOf.l0b some (impl_whoOf.l0 k) k x1_0_0 x1_1_0z x1_1_0 x1_2_0 x1_2_1 x1_2_2z x1_2_2 x1_2_3z x1_2_3 x1_2_4z x1_2_4 x1_4_0 x1_4_1 x1_4_2z x1_4_2 x1_4_3z x1_4_3 x1_4_4z x1_4_4 x5 x15 x16 c2_0z c2_0
def impl_whoOf.f : Nat → Bool → (List T) → Bool → Bool → (List T) → Int → Int → Bool → (List Int) → Bool → (List Int) → Bool → (List T) → Int → Int → Bool → (List Int) → Bool → (List Int) → Bool → (List T) → Option (Bool × List Int)
  | 0, _, _, _, _, _, _, _, _, _, _, _, _, _, _, _, _, _, _, _, _, _ => none
  | k + 1, a0_0z, a0_0, a1_0_0, a1_1_0z, a1_1_0, a1_2_0, a1_2_1, a1_2_2z, a1_2_2, a1_2_3z, a1_2_3, a1_2_4z, a1_2_4, a1_4_0, a1_4_1, a1_4_2z, a1_4_2, a1_4_3z, a1_4_3, a1_4_4z, a1_4_4 => impl_whoOf.b some (impl_whoOf.l0 k) k a0_0z a0_0 a1_0_0 a1_1_0z a1_1_0 a1_2_0 a1_2_1 a1_2_2z a1_2_2 a1_2_3z a1_2_3 a1_2_4z a1_2_4 a1_4_0 a1_4_1 a1_4_2z a1_4_2 a1_4_3z a1_4_3 a1_4_4z a1_4_4
def impl_whoOf.enc (r : Bool × List Int) : Res := ⟨[.vals false [((.nums 5 .u8 r.1 r.2), true)]], []⟩
def impl_whoOf.ans (k : Nat) : List Arg → Ans
  | [.v (.agg [(.sl 44 a0_0z a0_0)]), .v (.fn 152 [(.ptr [(.bool a1_0_0)]), (.ptr [(.sl 44 a1_1_0z a1_1_0)]), (.ptr [(.int .i64 a1_2_0), (.int .i64 a1_2_1), (.nums 5 .u8 a1_2_2z a1_2_2), (.nums 5 .u8 a1_2_3z a1_2_3), (.sl 22 a1_2_4z a1_2_4)]), (.ptr [(.fn 151 [])]), (.ptr [(.int .i64 a1_4_0), (.int .i64 a1_4_1), (.nums 5 .u8 a1_4_2z a1_4_2), (.nums 5 .u8 a1_4_3z a1_4_3), (.sl 22 a1_4_4z a1_4_4)])])] => ⟨impl_whoOf.f k a0_0z a0_0 a1_0_0 a1_1_0z a1_1_0 a1_2_0 a1_2_1 a1_2_2z a1_2_2 a1_2_3z a1_2_3 a1_2_4z a1_2_4 a1_4_0 a1_4_1 a1_4_2z a1_4_2 a1_4_3z a1_4_3 a1_4_4z a1_4_4, impl_whoOf.enc⟩
  | _ => Ans.no
def impl_whoOf.Cs (k : Nat) : CallSem := tab [(92, impl_TableOk.ans k), (152, impl_Blame_2.ans k), (119, impl_BitsOf.ans k)]
def impl_whoOf.cuts : List (Nat × Keep) := [(122, ⟨[(1, some []), (2, some []), (5, none), (15, some []), (16, some [])], [(2, [some []])]⟩)]
noncomputable def impl_whoOf.K0 : List Fr := framesAt [true, true, true, false, true, false] (bodyOf Try.f141 impl_whoOf.cuts) []
def impl_whoOf.N0 (x1_0_0 : Bool) (x1_1_0z : Bool) (x1_1_0 : List T) (x1_2_0 : Int) (x1_2_1 : Int) (x1_2_2z : Bool) (x1_2_2 : List Int) (x1_2_3z : Bool) (x1_2_3 : List Int) (x1_2_4z : Bool) (x1_2_4 : List T) (x1_4_0 : Int) (x1_4_1 : Int) (x1_4_2z : Bool) (x1_4_2 : List Int) (x1_4_3z : Bool) (x1_4_3 : List Int) (x1_4_4z : Bool) (x1_4_4 : List T) (x5 : List Int) (x15 : Int) (x16 : Int) (c2_0z : Bool) (c2_0 : List T) : St := stOf 36 36 2 [(1, .val ⟨(.fn 152 [(.ptr [(.bool x1_0_0)]), (.ptr [(.sl 44 x1_1_0z x1_1_0)]), (.ptr [(.int .i64 x1_2_0), (.int .i64 x1_2_1), (.nums 5 .u8 x1_2_2z x1_2_2), (.nums 5 .u8 x1_2_3z x1_2_3), (.sl 22 x1_2_4z x1_2_4)]), (.ptr [(.fn 151 [])]), (.ptr [(.int .i64 x1_4_0), (.int .i64 x1_4_1), (.nums 5 .u8 x1_4_2z x1_4_2), (.nums 5 .u8 x1_4_3z x1_4_3), (.sl 22 x1_4_4z x1_4_4)])]), [], false, none⟩), (2, .bp 2 0), (5, .val ⟨(.nums 3 .i64 false x5), [.l 5 0], true, some (.l 5 0)⟩), (15, .val (V.s (.int .i64 x15))), (16, .val (V.s (.int .i64 x16)))] [(2, .cells [⟨(.sl 44 c2_0z c2_0), [], false, none⟩])]
theorem impl_whoOf.s (k : Nat) (a0_0z : Bool) (a0_0 : List T) (a1_0_0 : Bool) (a1_1_0z : Bool) (a1_1_0 : List T) (a1_2_0 : Int) (a1_2_1 : Int) (a1_2_2z : Bool) (a1_2_2 : List Int) (a1_2_3z : Bool) (a1_2_3 : List Int) (a1_2_4z : Bool) (a1_2_4 : List T) (a1_4_0 : Int) (a1_4_1 : Int) (a1_4_2z : Bool) (a1_4_2 : List Int) (a1_4_3z : Bool) (a1_4_3 : List Int) (a1_4_4z : Bool) (a1_4_4 : List T) : answer Try.prog impl_whoOf.Cs 100000 impl_whoOf.cuts [] Try.f141 (k + 1) [.v (.agg [(.sl 44 a0_0z a0_0)]), .v (.fn 152 [(.ptr [(.bool a1_0_0)]), (.ptr [(.sl 44 a1_1_0z a1_1_0)]), (.ptr [(.int .i64 a1_2_0), (.int .i64 a1_2_1), (.nums 5 .u8 a1_2_2z a1_2_2), (.nums 5 .u8 a1_2_3z a1_2_3), (.sl 22 a1_2_4z a1_2_4)]), (.ptr [(.fn 151 [])]), (.ptr [(.int .i64 a1_4_0), (.int .i64 a1_4_1), (.nums 5 .u8 a1_4_2z a1_4_2), (.nums 5 .u8 a1_4_3z a1_4_3), (.sl 22 a1_4_4z a1_4_4)])])] = impl_whoOf.b (fun r => some (impl_whoOf.enc r)) (fun x1_0_0 x1_1_0z x1_1_0 x1_2_0 x1_2_1 x1_2_2z x1_2_2 x1_2_3z x1_2_3 x1_2_4z x1_2_4 x1_4_0 x1_4_1 x1_4_2z x1_4_2 x1_4_3z x1_4_3 x1_4_4z x1_4_4 x5 x15 x16 c2_0z c2_0 => rounds Try.prog impl_whoOf.Cs (finish Try.prog [] Try.f141 [.v (.agg [(.sl 44 a0_0z a0_0)]), .v (.fn 152 [(.ptr [(.bool a1_0_0)]), (.ptr [(.sl 44 a1_1_0z a1_1_0)]), (.ptr [(.int .i64 a1_2_0), (.int .i64 a1_2_1), (.nums 5 .u8 a1_2_2z a1_2_2), (.nums 5 .u8 a1_2_3z a1_2_3), (.sl 22 a1_2_4z a1_2_4)]), (.ptr [(.fn 151 [])]), (.ptr [(.int .i64 a1_4_0), (.int .i64 a1_4_1), (.nums 5 .u8 a1_4_2z a1_4_2), (.nums 5 .u8 a1_4_3z a1_4_3), (.sl 22 a1_4_4z a1_4_4)])])]) 100000 k impl_whoOf.K0 (impl_whoOf.N0 x1_0_0 x1_1_0z x1_1_0 x1_2_0 x1_2_1 x1_2_2z x1_2_2 x1_2_3z x1_2_3 x1_2_4z x1_2_4 x1_4_0 x1_4_1 x1_4_2z x1_4_2 x1_4_3z x1_4_3 x1_4_4z x1_4_4 x5 x15 x16 c2_0z c2_0)) k a0_0z a0_0 a1_0_0 a1_1_0z a1_1_0 a1_2_0 a1_2_1 a1_2_2z a1_2_2 a1_2_3z a1_2_3 a1_2_4z a1_2_4 a1_4_0 a1_4_1 a1_4_2z a1_4_2 a1_4_3z a1_4_3 a1_4_4z a1_4_4 := by kernel_rfl
theorem impl_whoOf.s0 (k : Nat) (G : List Fr → St → Option Res) (a0_0z : Bool) (a0_0 : List T) (a1_0_0 : Bool) (a1_1_0z : Bool) (a1_1_0 : List T) (a1_2_0 : Int) (a1_2_1 : Int) (a1_2_2z : Bool) (a1_2_2 : List Int) (a1_2_3z : Bool) (a1_2_3 : List Int) (a1_2_4z : Bool) (a1_2_4 : List T) (a1_4_0 : Int) (a1_4_1 : Int) (a1_4_2z : Bool) (a1_4_2 : List Int) (a1_4_3z : Bool) (a1_4_3 : List Int) (a1_4_4z : Bool) (a1_4_4 : List T) (yx1_0_0 : Bool) (yx1_1_0z : Bool) (yx1_1_0 : List T) (yx1_2_0 : Int) (yx1_2_1 : Int) (yx1_2_2z : Bool) (yx1_2_2 : List Int) (yx1_2_3z : Bool) (yx1_2_3 : List Int) (yx1_2_4z : Bool) (yx1_2_4 : List T) (yx1_4_0 : Int) (yx1_4_1 : Int) (yx1_4_2z : Bool) (yx1_4_2 : List Int) (yx1_4_3z : Bool) (yx1_4_3 : List Int) (yx1_4_4z : Bool) (yx1_4_4 : List T) (yx5 : List Int) (yx15 : Int) (yx16 : Int) (yc2_0z : Bool) (yc2_0 : List T) : resume Try.prog (impl_whoOf.Cs k) G (finish Try.prog [] Try.f141 [.v (.agg [(.sl 44 a0_0z a0_0)]), .v (.fn 152 [(.ptr [(.bool a1_0_0)]), (.ptr [(.sl 44 a1_1_0z a1_1_0)]), (.ptr [(.int .i64 a1_2_0), (.int .i64 a1_2_1), (.nums 5 .u8 a1_2_2z a1_2_2), (.nums 5 .u8 a1_2_3z a1_2_3), (.sl 22 a1_2_4z a1_2_4)]), (.ptr [(.fn 151 [])]), (.ptr [(.int .i64 a1_4_0), (.int .i64 a1_4_1), (.nums 5 .u8 a1_4_2z a1_4_2), (.nums 5 .u8 a1_4_3z a1_4_3), (.sl 22 a1_4_4z a1_4_4)])])]) 100000 impl_whoOf.K0 (impl_whoOf.N0 yx1_0_0 yx1_1_0z yx1_1_0 yx1_2_0 yx1_2_1 yx1_2_2z yx1_2_2 yx1_2_3z yx1_2_3 yx1_2_4z yx1_2_4 yx1_4_0 yx1_4_1 yx1_4_2z yx1_4_2 yx1_4_3z yx1_4_3 yx1_4_4z yx1_4_4 yx5 yx15 yx16 yc2_0z yc2_0) = impl_whoOf.l0b (fun r => some (impl_whoOf.enc r)) (fun x1_0_0 x1_1_0z x1_1_0 x1_2_0 x1_2_1 x1_2_2z x1_2_2 x1_2_3z x1_2_3 x1_2_4z x1_2_4 x1_4_0 x1_4_1 x1_4_2z x1_4_2 x1_4_3z x1_4_3 x1_4_4z x1_4_4 x5 x15 x16 c2_0z c2_0 => G impl_whoOf.K0 (impl_whoOf.N0 x1_0_0 x1_1_0z x1_1_0 x1_2_0 x1_2_1 x1_2_2z x1_2_2 x1_2_3z x1_2_3 x1_2_4z x1_2_4 x1_4_0 x1_4_1 x1_4_2z x1_4_2 x1_4_3z x1_4_3 x1_4_4z x1_4_4 x5 x15 x16 c2_0z c2_0)) k yx1_0_0 yx1_1_0z yx1_1_0 yx1_2_0 yx1_2_1 yx1_2_2z yx1_2_2 yx1_2_3z yx1_2_3 yx1_2_4z yx1_2_4 yx1_4_0 yx1_4_1 yx1_4_2z yx1_4_2 yx1_4_3z yx1_4_3 yx1_4_4z yx1_4_4 yx5 yx15 yx16 yc2_0z yc2_0 := by kernel_rfl
theorem impl_whoOf.b_nat {R R' : Type} (e : R → R') (ret : Bool × List Int → Option R) (j0 : Bool → Bool → (List T) → Int → Int → Bool → (List Int) → Bool → (List Int) → Bool → (List T) → Int → Int → Bool → (List Int) → Bool → (List Int) → Bool → (List T) → (List Int) → Int → Int → Bool → (List T) → Option R) (k : Nat) (a0_0z : Bool) (a0_0 : List T) (a1_0_0 : Bool) (a1_1_0z : Bool) (a1_1_0 : List T) (a1_2_0 : Int) (a1_2_1 : Int) (a1_2_2z : Bool) (a1_2_2 : List Int) (a1_2_3z : Bool) (a1_2_3 : List Int) (a1_2_4z : Bool) (a1_2_4 : List T) (a1_4_0 : Int) (a1_4_1 : Int) (a1_4_2z : Bool) (a1_4_2 : List Int) (a1_4_3z : Bool) (a1_4_3 : List Int) (a1_4_4z : Bool) (a1_4_4 : List T) : impl_whoOf.b (fun r => (ret r).map e) (fun x1_0_0 x1_1_0z x1_1_0 x1_2_0 x1_2_1 x1_2_2z x1_2_2 x1_2_3z x1_2_3 x1_2_4z x1_2_4 x1_4_0 x1_4_1 x1_4_2z x1_4_2 x1_4_3z x1_4_3 x1_4_4z x1_4_4 x5 x15 x16 c2_0z c2_0 => (j0 x1_0_0 x1_1_0z x1_1_0 x1_2_0 x1_2_1 x1_2_2z x1_2_2 x1_2_3z x1_2_3 x1_2_4z x1_2_4 x1_4_0 x1_4_1 x1_4_2z x1_4_2 x1_4_3z x1_4_3 x1_4_4z x1_4_4 x5 x15 x16 c2_0z c2_0).map e) k a0_0z a0_0 a1_0_0 a1_1_0z a1_1_0 a1_2_0 a1_2_1 a1_2_2z a1_2_2 a1_2_3z a1_2_3 a1_2_4z a1_2_4 a1_4_0 a1_4_1 a1_4_2z a1_4_2 a1_4_3z a1_4_3 a1_4_4z a1_4_4 = (impl_whoOf.b ret j0 k a0_0z a0_0 a1_0_0 a1_1_0z a1_1_0 a1_2_0 a1_2_1 a1_2_2z a1_2_2 a1_2_3z a1_2_3 a1_2_4z a1_2_4 a1_4_0 a1_4_1 a1_4_2z a1_4_2 a1_4_3z a1_4_3 a1_4_4z a1_4_4).map e := by
  unfold impl_whoOf.b
  repeat' first | with_reducible refine nat_cond ?_ ?_ | with_reducible refine nat_bind fun _ => ?_ | rfl
theorem impl_whoOf.l0b_nat {R R' : Type} (e : R → R') (ret : Bool × List Int → Option R) (j0 : Bool → Bool → (List T) → Int → Int → Bool → (List Int) → Bool → (List Int) → Bool → (List T) → Int → Int → Bool → (List Int) → Bool → (List Int) → Bool → (List T) → (List Int) → Int → Int → Bool → (List T) → Option R) (k : Nat) (x1_0_0 : Bool) (x1_1_0z : Bool) (x1_1_0 : List T) (x1_2_0 : Int) (x1_2_1 : Int) (x1_2_2z : Bool) (x1_2_2 : List Int) (x1_2_3z : Bool) (x1_2_3 : List Int) (x1_2_4z : Bool) (x1_2_4 : List T) (x1_4_0 : Int) (x1_4_1 : Int) (x1_4_2z : Bool) (x1_4_2 : List Int) (x1_4_3z : Bool) (x1_4_3 : List Int) (x1_4_4z : Bool) (x1_4_4 : List T) (x5 : List Int) (x15 : Int) (x16 : Int) (c2_0z : Bool) (c2_0 : List T) : impl_whoOf.l0b (fun r => (ret r).map e) (fun x1_0_0 x1_1_0z x1_1_0 x1_2_0 x1_2_1 x1_2_2z x1_2_2 x1_2_3z x1_2_3 x1_2_4z x1_2_4 x1_4_0 x1_4_1 x1_4_2z x1_4_2 x1_4_3z x1_4_3 x1_4_4z x1_4_4 x5 x15 x16 c2_0z c2_0 => (j0 x1_0_0 x1_1_0z x1_1_0 x1_2_0 x1_2_1 x1_2_2z x1_2_2 x1_2_3z x1_2_3 x1_2_4z x1_2_4 x1_4_0 x1_4_1 x1_4_2z x1_4_2 x1_4_3z x1_4_3 x1_4_4z x1_4_4 x5 x15 x16 c2_0z c2_0).map e) k x1_0_0 x1_1_0z x1_1_0 x1_2_0 x1_2_1 x1_2_2z x1_2_2 x1_2_3z x1_2_3 x1_2_4z x1_2_4 x1_4_0 x1_4_1 x1_4_2z x1_4_2 x1_4_3z x1_4_3 x1_4_4z x1_4_4 x5 x15 x16 c2_0z c2_0 = (impl_whoOf.l0b ret j0 k x1_0_0 x1_1_0z x1_1_0 x1_2_0 x1_2_1 x1_2_2z x1_2_2 x1_2_3z x1_2_3 x1_2_4z x1_2_4 x1_4_0 x1_4_1 x1_4_2z x1_4_2 x1_4_3z x1_4_3 x1_4_4z x1_4_4 x5 x15 x16 c2_0z c2_0).map e := by
  unfold impl_whoOf.l0b
  repeat' first | with_reducible refine nat_cond ?_ ?_ | with_reducible refine nat_bind fun _ => ?_ | rfl
theorem impl_whoOf.rounds_eq (a0_0z : Bool) (a0_0 : List T) (a1_0_0 : Bool) (a1_1_0z : Bool) (a1_1_0 : List T) (a1_2_0 : Int) (a1_2_1 : Int) (a1_2_2z : Bool) (a1_2_2 : List Int) (a1_2_3z : Bool) (a1_2_3 : List Int) (a1_2_4z : Bool) (a1_2_4 : List T) (a1_4_0 : Int) (a1_4_1 : Int) (a1_4_2z : Bool) (a1_4_2 : List Int) (a1_4_3z : Bool) (a1_4_3 : List Int) (a1_4_4z : Bool) (a1_4_4 : List T) : ∀ k, (∀ (x1_0_0 : Bool) (x1_1_0z : Bool) (x1_1_0 : List T) (x1_2_0 : Int) (x1_2_1 : Int) (x1_2_2z : Bool) (x1_2_2 : List Int) (x1_2_3z : Bool) (x1_2_3 : List Int) (x1_2_4z : Bool) (x1_2_4 : List T) (x1_4_0 : Int) (x1_4_1 : Int) (x1_4_2z : Bool) (x1_4_2 : List Int) (x1_4_3z : Bool) (x1_4_3 : List Int) (x1_4_4z : Bool) (x1_4_4 : List T) (x5 : List Int) (x15 : Int) (x16 : Int) (c2_0z : Bool) (c2_0 : List T), rounds Try.prog impl_whoOf.Cs (finish Try.prog [] Try.f141 [.v (.agg [(.sl 44 a0_0z a0_0)]), .v (.fn 152 [(.ptr [(.bool a1_0_0)]), (.ptr [(.sl 44 a1_1_0z a1_1_0)]), (.ptr [(.int .i64 a1_2_0), (.int .i64 a1_2_1), (.nums 5 .u8 a1_2_2z a1_2_2), (.nums 5 .u8 a1_2_3z a1_2_3), (.sl 22 a1_2_4z a1_2_4)]), (.ptr [(.fn 151 [])]), (.ptr [(.int .i64 a1_4_0), (.int .i64 a1_4_1), (.nums 5 .u8 a1_4_2z a1_4_2), (.nums 5 .u8 a1_4_3z a1_4_3), (.sl 22 a1_4_4z a1_4_4)])])]) 100000 k impl_whoOf.K0 (impl_whoOf.N0 x1_0_0 x1_1_0z x1_1_0 x1_2_0 x1_2_1 x1_2_2z x1_2_2 x1_2_3z x1_2_3 x1_2_4z x1_2_4 x1_4_0 x1_4_1 x1_4_2z x1_4_2 x1_4_3z x1_4_3 x1_4_4z x1_4_4 x5 x15 x16 c2_0z c2_0) = (impl_whoOf.l0 k x1_0_0 x1_1_0z x1_1_0 x1_2_0 x1_2_1 x1_2_2z x1_2_2 x1_2_3z x1_2_3 x1_2_4z x1_2_4 x1_4_0 x1_4_1 x1_4_2z x1_4_2 x1_4_3z x1_4_3 x1_4_4z x1_4_4 x5 x15 x16 c2_0z c2_0).map impl_whoOf.enc)
  | 0 => fun _ _ _ _ _ _ _ _ _ _ _ _ _ _ _ _ _ _ _ _ _ _ _ _ => rfl
  | k + 1 => by
    have ih := impl_whoOf.rounds_eq a0_0z a0_0 a1_0_0 a1_1_0z a1_1_0 a1_2_0 a1_2_1 a1_2_2z a1_2_2 a1_2_3z a1_2_3 a1_2_4z a1_2_4 a1_4_0 a1_4_1 a1_4_2z a1_4_2 a1_4_3z a1_4_3 a1_4_4z a1_4_4 k
    refine fun _ _ _ _ _ _ _ _ _ _ _ _ _ _ _ _ _ _ _ _ _ _ _ _ => ?_
    · refine (impl_whoOf.s0 k _ a0_0z a0_0 a1_0_0 a1_1_0z a1_1_0 a1_2_0 a1_2_1 a1_2_2z a1_2_2 a1_2_3z a1_2_3 a1_2_4z a1_2_4 a1_4_0 a1_4_1 a1_4_2z a1_4_2 a1_4_3z a1_4_3 a1_4_4z a1_4_4 _ _ _ _ _ _ _ _ _ _ _ _ _ _ _ _ _ _ _ _ _ _ _ _).trans (Eq.trans ?_ (impl_whoOf.l0b_nat impl_whoOf.enc some (impl_whoOf.l0 k) k _ _ _ _ _ _ _ _ _ _ _ _ _ _ _ _ _ _ _ _ _ _ _ _))
      simp only [ih, Option.map_some]
theorem impl_whoOf.eq (k : Nat) (a0_0z : Bool) (a0_0 : List T) (a1_0_0 : Bool) (a1_1_0z : Bool) (a1_1_0 : List T) (a1_2_0 : Int) (a1_2_1 : Int) (a1_2_2z : Bool) (a1_2_2 : List Int) (a1_2_3z : Bool) (a1_2_3 : List Int) (a1_2_4z : Bool) (a1_2_4 : List T) (a1_4_0 : Int) (a1_4_1 : Int) (a1_4_2z : Bool) (a1_4_2 : List Int) (a1_4_3z : Bool) (a1_4_3 : List Int) (a1_4_4z : Bool) (a1_4_4 : List T) : answer Try.prog impl_whoOf.Cs 100000 impl_whoOf.cuts [] Try.f141 (k + 1) [.v (.agg [(.sl 44 a0_0z a0_0)]), .v (.fn 152 [(.ptr [(.bool a1_0_0)]), (.ptr [(.sl 44 a1_1_0z a1_1_0)]), (.ptr [(.int .i64 a1_2_0), (.int .i64 a1_2_1), (.nums 5 .u8 a1_2_2z a1_2_2), (.nums 5 .u8 a1_2_3z a1_2_3), (.sl 22 a1_2_4z a1_2_4)]), (.ptr [(.fn 151 [])]), (.ptr [(.int .i64 a1_4_0), (.int .i64 a1_4_1), (.nums 5 .u8 a1_4_2z a1_4_2), (.nums 5 .u8 a1_4_3z a1_4_3), (.sl 22 a1_4_4z a1_4_4)])])] = (impl_whoOf.f (k + 1) a0_0z a0_0 a1_0_0 a1_1_0z a1_1_0 a1_2_0 a1_2_1 a1_2_2z a1_2_2 a1_2_3z a1_2_3 a1_2_4z a1_2_4 a1_4_0 a1_4_1 a1_4_2z a1_4_2 a1_4_3z a1_4_3 a1_4_4z a1_4_4).map impl_whoOf.enc := by
  have ih := impl_whoOf.rounds_eq a0_0z a0_0 a1_0_0 a1_1_0z a1_1_0 a1_2_0 a1_2_1 a1_2_2z a1_2_2 a1_2_3z a1_2_3 a1_2_4z a1_2_4 a1_4_0 a1_4_1 a1_4_2z a1_4_2 a1_4_3z a1_4_3 a1_4_4z a1_4_4 k
  refine (impl_whoOf.s k a0_0z a0_0 a1_0_0 a1_1_0z a1_1_0 a1_2_0 a1_2_1 a1_2_2z a1_2_2 a1_2_3z a1_2_3 a1_2_4z a1_2_4 a1_4_0 a1_4_1 a1_4_2z a1_4_2 a1_4_3z a1_4_3 a1_4_4z a1_4_4).trans (Eq.trans ?_ (impl_whoOf.b_nat impl_whoOf.enc some (impl_whoOf.l0 k) k a0_0z a0_0 a1_0_0 a1_1_0z a1_1_0 a1_2_0 a1_2_1 a1_2_2z a1_2_2 a1_2_3z a1_2_3 a1_2_4z a1_2_4 a1_4_0 a1_4_1 a1_4_2z a1_4_2 a1_4_3z a1_4_3 a1_4_4z a1_4_4))
  simp only [ih, Option.map_some]
theorem impl_whoOf.sound (k : Nat) : SoundF Try.prog 141 (fun a => (impl_whoOf.ans k a).val) := by
  refine sound_plain (fun args res h => ?_) (fun t n => rfl)
  unfold impl_whoOf.ans at h
  dsimp only at h
  split at h
  · cases k with
    | zero => cases h
    | succ k =>
      unfold Ans.val at h
      rw [← impl_whoOf.eq] at h
      exact answer_sound mixed Try.func141 _ _ _ (k + 1) (fun j _ => tab_sound (tab_cons (impl_TableOk.sound j) (tab_cons (impl_Blame_2.sound j) (tab_cons (impl_BitsOf.sound j) (tab_nil))))) _ _ h
  · exact (Ans.no_val h).elim

/-! loop.example/g00790/impl.Blame -/
def impl_Blame.b {R : Type} (ret : Bool × List Int → Option R) (k : Nat) (a0_0z : Bool) (a0_0 : List T) (a1_0 : Int) (a1_1 : Int) (a1_2z : Bool) (a1_2 : List Int) (a1_3z : Bool) (a1_3 : List Int) (a1_4z : Bool) (a1_4 : List T) (a2_0 : Int) (a2_1 : Int) (a2_2z : Bool) (a2_2 : List Int) (a2_3z : Bool) (a2_3 : List Int) (a2_4z : Bool) (a2_4 : List T) : Option R :=
  cond (decide (a1_0 = a2_0)) ((impl_SameBytes.f k a1_2z a1_2 a2_2z a2_2).bind fun t0 => (impl_whoOf.f k a0_0z a0_0 (!t0) a0_0z a0_0 a1_0 a1_1 a1_2z a1_2 a1_3z a1_3 a1_4z a1_4 a2_0 a2_1 a2_2z a2_2 a2_3z a2_3 a2_4z a2_4).bind fun t1 => ret (t1.1, t1.2)) ((impl_whoOf.f k a0_0z a0_0 false a0_0z a0_0 a1_0 a1_1 a1_2z a1_2 a1_3z a1_3 a1_4z a1_4 a2_0 a2_1 a2_2z a2_2 a2_3z a2_3 a2_4z a2_4).bind fun t0 => ret (t0.1, t0.2))
def impl_Blame.f : Nat → Bool → (List T) → Int → Int → Bool → (List Int) → Bool → (List Int) → Bool → (List T) → Int → Int → Bool → (List Int) → Bool → (List Int) → Bool → (List T) → Option (Bool × List Int)
  | 0, _, _, _, _, _, _, _, _, _, _, _, _, _, _, _, _, _, _ => none
  | k + 1, a0_0z, a0_0, a1_0, a1_1, a1_2z, a1_2, a1_3z, a1_3, a1_4z, a1_4, a2_0, a2_1, a2_2z, a2_2, a2_3z, a2_3, a2_4z, a2_4 => impl_Blame.b some k a0_0z a0_0 a1_0 a1_1 a1_2z a1_2 a1_3z a1_3 a1_4z a1_4 a2_0 a2_1 a2_2z a2_2 a2_3z a2_3 a2_4z a2_4
def impl_Blame.enc (r : Bool × List Int) : Res := ⟨[.vals false [((.nums 5 .u8 r.1 r.2), true)]], []⟩
def impl_Blame.ans (k : Nat) : List Arg → Ans
  | [.v (.agg [(.sl 44 a0_0z a0_0)]), .v (.agg [(.int .i64 a1_0), (.int .i64 a1_1), (.nums 5 .u8 a1_2z a1_2), (.nums 5 .u8 a1_3z a1_3), (.sl 22 a1_4z a1_4)]), .v (.agg [(.int .i64 a2_0), (.int .i64 a2_1), (.nums 5 .u8 a2_2z a2_2), (.nums 5 .u8 a2_3z a2_3), (.sl 22 a2_4z a2_4)])] => ⟨impl_Blame.f k a0_0z a0_0 a1_0 a1_1 a1_2z a1_2 a1_3z a1_3 a1_4z a1_4 a2_0 a2_1 a2_2z a2_2 a2_3z a2_3 a2_4z a2_4, impl_Blame.enc⟩
  | _ => Ans.no
def impl_Blame.Cs (k : Nat) : CallSem := tab [(47, impl_SameBytes.ans k), (141, impl_whoOf.ans k)]
def impl_Blame.cuts : List (Nat × Keep) := []
theorem impl_Blame.s (k : Nat) (a0_0z : Bool) (a0_0 : List T) (a1_0 : Int) (a1_1 : Int) (a1_2z : Bool) (a1_2 : List Int) (a1_3z : Bool) (a1_3 : List Int) (a1_4z : Bool) (a1_4 : List T) (a2_0 : Int) (a2_1 : Int) (a2_2z : Bool) (a2_2 : List Int) (a2_3z : Bool) (a2_3 : List Int) (a2_4z : Bool) (a2_4 : List T) : answer Try.prog impl_Blame.Cs 100000 impl_Blame.cuts [] Try.f70 (k + 1) [.v (.agg [(.sl 44 a0_0z a0_0)]), .v (.agg [(.int .i64 a1_0), (.int .i64 a1_1), (.nums 5 .u8 a1_2z a1_2), (.nums 5 .u8 a1_3z a1_3), (.sl 22 a1_4z a1_4)]), .v (.agg [(.int .i64 a2_0), (.int .i64 a2_1), (.nums 5 .u8 a2_2z a2_2), (.nums 5 .u8 a2_3z a2_3), (.sl 22 a2_4z a2_4)])] = impl_Blame.b (fun r => some (impl_Blame.enc r)) k a0_0z a0_0 a1_0 a1_1 a1_2z a1_2 a1_3z a1_3 a1_4z a1_4 a2_0 a2_1 a2_2z a2_2 a2_3z a2_3 a2_4z a2_4 := by kernel_rfl
theorem impl_Blame.b_nat {R R' : Type} (e : R → R') (ret : Bool × List Int → Option R) (k : Nat) (a0_0z : Bool) (a0_0 : List T) (a1_0 : Int) (a1_1 : Int) (a1_2z : Bool) (a1_2 : List Int) (a1_3z : Bool) (a1_3 : List Int) (a1_4z : Bool) (a1_4 : List T) (a2_0 : Int) (a2_1 : Int) (a2_2z : Bool) (a2_2 : List Int) (a2_3z : Bool) (a2_3 : List Int) (a2_4z : Bool) (a2_4 : List T) : impl_Blame.b (fun r => (ret r).map e) k a0_0z a0_0 a1_0 a1_1 a1_2z a1_2 a1_3z a1_3 a1_4z a1_4 a2_0 a2_1 a2_2z a2_2 a2_3z a2_3 a2_4z a2_4 = (impl_Blame.b ret k a0_0z a0_0 a1_0 a1_1 a1_2z a1_2 a1_3z a1_3 a1_4z a1_4 a2_0 a2_1 a2_2z a2_2 a2_3z a2_3 a2_4z a2_4).map e := by
  unfold impl_Blame.b
  repeat' first | with_reducible refine nat_cond ?_ ?_ | with_reducible refine nat_bind fun _ => ?_ | rfl
theorem impl_Blame.eq (k : Nat) (a0_0z : Bool) (a0_0 : List T) (a1_0 : Int) (a1_1 : Int) (a1_2z : Bool) (a1_2 : List Int) (a1_3z : Bool) (a1_3 : List Int) (a1_4z : Bool) (a1_4 : List T) (a2_0 : Int) (a2_1 : Int) (a2_2z : Bool) (a2_2 : List Int) (a2_3z : Bool) (a2_3 : List Int) (a2_4z : Bool) (a2_4 : List T) : answer Try.prog impl_Blame.Cs 100000 impl_Blame.cuts [] Try.f70 (k + 1) [.v (.agg [(.sl 44 a0_0z a0_0)]), .v (.agg [(.int .i64 a1_0), (.int .i64 a1_1), (.nums 5 .u8 a1_2z a1_2), (.nums 5 .u8 a1_3z a1_3), (.sl 22 a1_4z a1_4)]), .v (.agg [(.int .i64 a2_0), (.int .i64 a2_1), (.nums 5 .u8 a2_2z a2_2), (.nums 5 .u8 a2_3z a2_3), (.sl 22 a2_4z a2_4)])] = (impl_Blame.f (k + 1) a0_0z a0_0 a1_0 a1_1 a1_2z a1_2 a1_3z a1_3 a1_4z a1_4 a2_0 a2_1 a2_2z a2_2 a2_3z a2_3 a2_4z a2_4).map impl_Blame.enc := by
  refine (impl_Blame.s k a0_0z a0_0 a1_0 a1_1 a1_2z a1_2 a1_3z a1_3 a1_4z a1_4 a2_0 a2_1 a2_2z a2_2 a2_3z a2_3 a2_4z a2_4).trans (Eq.trans ?_ (impl_Blame.b_nat impl_Blame.enc some k a0_0z a0_0 a1_0 a1_1 a1_2z a1_2 a1_3z a1_3 a1_4z a1_4 a2_0 a2_1 a2_2z a2_2 a2_3z a2_3 a2_4z a2_4))
  simp only [Option.map_some]
theorem impl_Blame.sound (k : Nat) : SoundF Try.prog 70 (fun a => (impl_Blame.ans k a).val) := by
  refine sound_plain (fun args res h => ?_) (fun t n => rfl)
  unfold impl_Blame.ans at h
  dsimp only at h
  split at h
  · cases k with
    | zero => cases h
    | succ k =>
      unfold Ans.val at h
      rw [← impl_Blame.eq] at h
      exact answer_sound mixed Try.func70 _ _ _ (k + 1) (fun j _ => tab_sound (tab_cons (impl_SameBytes.sound j) (tab_cons (impl_whoOf.sound j) (tab_nil)))) _ _ h
  · exact (Ans.no_val h).elim

/-! loop.example/g00790/laws.eqByteS -/
def laws_eqByteS.b {R : Type} (ret : Bool → Option R) (j0 : Bool → (List Int) → Bool → (List Int) → Int → Option R) (k : Nat) (a0z : Bool) (a0 : List Int) (a1z : Bool) (a1 : List Int) : Option R :=
  cond (!(decide (((a0).length : Int) = ((a1).length : Int)))) (ret false) (j0 a0z a0 a1z a1 0)
def laws_eqByteS.l0b {R : Type} (ret : Bool → Option R) (j0 : Bool → (List Int) → Bool → (List Int) → Int → Option R) (k : Nat) (x0z : Bool) (x0 : List Int) (x1z : Bool) (x1 : List Int) (x5 : Int) : Option R :=
  cond (decide (x5 < ((x0).length : Int))) (cond (decide ((0 : Int) ≤ x5)) (cond (decide (x5 < ((x0).length : Int))) (cond (decide ((0 : Int) ≤ x5)) (cond (decide (x5 < ((x1).length : Int))) (cond (!(decide ((rdI x0 x5) = (rdI x1 x5)))) (ret false) (j0 x0z x0 x1z x1 (RowKit.wrap64 (x5 + 1)))) (none)) (none)) (none)) (none)) (ret true)
def laws_eqByteS.l0 : Nat → Bool → (List Int) → Bool → (List Int) → Int → Option Bool
  | 0, _, _, _, _, _ => none
  | k + 1, x0z, x0, x1z, x1, x5 => laws_eqByteS.l0b some (laws_eqByteS.l0 k) k x0z x0 x1z x1 x5
def laws_eqByteS.f : Nat → Bool → (List Int) → Bool → (List Int) → Option Bool
  | 0, _, _, _, _ => none
  | k + 1, a0z, a0, a1z, a1 => laws_eqByteS.b some (laws_eqByteS.l0 k) k a0z a0 a1z a1
def laws_eqByteS.enc (r : Bool) : Res := ⟨[.vals false [((.bool r), true)]], []⟩
def laws_eqByteS.ans (k : Nat) : List Arg → Ans
  | [.v (.nums 5 .u8 a0z a0), .v (.nums 5 .u8 a1z a1)] => ⟨laws_eqByteS.f k a0z a0 a1z a1, laws_eqByteS.enc⟩
  | _ => Ans.no
def laws_eqByteS.Cs (k : Nat) : CallSem := tab []
def laws_eqByteS.cuts : List (Nat × Keep) := [(58, ⟨[(0, some []), (1, some []), (5, some [])], []⟩)]
noncomputable def laws_eqByteS.K0 : List Fr := framesAt [true, true, false, true, false] (bodyOf Try.f32 laws_eqByteS.cuts) []
def laws_eqByteS.N0 (x0z : Bool) (x0 : List Int) (x1z : Bool) (x1 : List Int) (x5 : Int) : St := stOf 26 26 2 [(0, .val ⟨(.nums 5 .u8 x0z x0), [], false, none⟩), (1, .val ⟨(.nums 5 .u8 x1z x1), [], false, none⟩), (5, .val (V.s (.int .i64 x5)))] []
theorem laws_eqByteS.s (k : Nat) (a0z : Bool) (a0 : List Int) (a1z : Bool) (a1 : List Int) : answer Try.prog laws_eqByteS.Cs 100000 laws_eqByteS.cuts [] Try.f32 (k + 1) [.v (.nums 5 .u8 a0z a0), .v (.nums 5 .u8 a1z a1)] = laws_eqByteS.b (fun r => some (laws_eqByteS.enc r)) (fun x0z x0 x1z x1 x5 => rounds Try.prog laws_eqByteS.Cs (finish Try.prog [] Try.f32 [.v (.nums 5 .u8 a0z a0), .v (.nums 5 .u8 a1z a1)]) 100000 k laws_eqByteS.K0 (laws_eqByteS.N0 x0z x0 x1z x1 x5)) k a0z a0 a1z a1 := by kernel_rfl
theorem laws_eqByteS.s0 (k : Nat) (G : List Fr → St → Option Res) (a0z : Bool) (a0 : List Int) (a1z : Bool) (a1 : List Int) (yx0z : Bool) (yx0 : List Int) (yx1z : Bool) (yx1 : List Int) (yx5 : Int) : resume Try.prog (laws_eqByteS.Cs k) G (finish Try.prog [] Try.f32 [.v (.nums 5 .u8 a0z a0), .v (.nums 5 .u8 a1z a1)]) 100000 laws_eqByteS.K0 (laws_eqByteS.N0 yx0z yx0 yx1z yx1 yx5) = laws_eqByteS.l0b (fun r => some (laws_eqByteS.enc r)) (fun x0z x0 x1z x1 x5 => G laws_eqByteS.K0 (laws_eqByteS.N0 x0z x0 x1z x1 x5)) k yx0z yx0 yx1z yx1 yx5 := by kernel_rfl
theorem laws_eqByteS.b_nat {R R' : Type} (e : R → R') (ret : Bool → Option R) (j0 : Bool → (List Int) → Bool → (List Int) → Int → Option R) (k : Nat) (a0z : Bool) (a0 : List Int) (a1z : Bool) (a1 : List Int) : laws_eqByteS.b (fun r => (ret r).map e) (fun x0z x0 x1z x1 x5 => (j0 x0z x0 x1z x1 x5).map e) k a0z a0 a1z a1 = (laws_eqByteS.b ret j0 k a0z a0 a1z a1).map e := by
  unfold laws_eqByteS.b
  repeat' first | with_reducible refine nat_cond ?_ ?_ | with_reducible refine nat_bind fun _ => ?_ | rfl
theorem laws_eqByteS.l0b_nat {R R' : Type} (e : R → R') (ret : Bool → Option R) (j0 : Bool → (List Int) → Bool → (List Int) → Int → Option R) (k : Nat) (x0z : Bool) (x0 : List Int) (x1z : Bool) (x1 : List Int) (x5 : Int) : laws_eqByteS.l0b (fun r => (ret r).map e) (fun x0z x0 x1z x1 x5 => (j0 x0z x0 x1z x1 x5).map e) k x0z x0 x1z x1 x5 = (laws_eqByteS.l0b ret j0 k x0z x0 x1z x1 x5).map e := by
  unfold laws_eqByteS.l0b
  repeat' first | with_reducible refine nat_cond ?_ ?_ | with_reducible refine nat_bind fun _ => ?_ | rfl
theorem laws_eqByteS.rounds_eq (a0z : Bool) (a0 : List Int) (a1z : Bool) (a1 : List Int) : ∀ k, (∀ (x0z : Bool) (x0 : List Int) (x1z : Bool) (x1 : List Int) (x5 : Int), rounds Try.prog laws_eqByteS.Cs (finish Try.prog [] Try.f32 [.v (.nums 5 .u8 a0z a0), .v (.nums 5 .u8 a1z a1)]) 100000 k laws_eqByteS.K0 (laws_eqByteS.N0 x0z x0 x1z x1 x5) = (laws_eqByteS.l0 k x0z x0 x1z x1 x5).map laws_eqByteS.enc)
  | 0 => fun _ _ _ _ _ => rfl
  | k + 1 => by
    have ih := laws_eqByteS.rounds_eq a0z a0 a1z a1 k
    refine fun _ _ _ _ _ => ?_
    · refine (laws_eqByteS.s0 k _ a0z a0 a1z a1 _ _ _ _ _).trans (Eq.trans ?_ (laws_eqByteS.l0b_nat laws_eqByteS.enc some (laws_eqByteS.l0 k) k _ _ _ _ _))
      simp only [ih, Option.map_some]
theorem laws_eqByteS.eq (k : Nat) (a0z : Bool) (a0 : List Int) (a1z : Bool) (a1 : List Int) : answer Try.prog laws_eqByteS.Cs 100000 laws_eqByteS.cuts [] Try.f32 (k + 1) [.v (.nums 5 .u8 a0z a0), .v (.nums 5 .u8 a1z a1)] = (laws_eqByteS.f (k + 1) a0z a0 a1z a1).map laws_eqByteS.enc := by
  have ih := laws_eqByteS.rounds_eq a0z a0 a1z a1 k
  refine (laws_eqByteS.s k a0z a0 a1z a1).trans (Eq.trans ?_ (laws_eqByteS.b_nat laws_eqByteS.enc some (laws_eqByteS.l0 k) k a0z a0 a1z a1))
  simp only [ih, Option.map_some]
theorem laws_eqByteS.sound (k : Nat) : SoundF Try.prog 32 (fun a => (laws_eqByteS.ans k a).val) := by
  refine sound_plain (fun args res h => ?_) (fun t n => rfl)
  unfold laws_eqByteS.ans at h
  dsimp only at h
  split at h
  · cases k with
    | zero => cases h
    | succ k =>
      unfold Ans.val at h
      rw [← laws_eqByteS.eq] at h
      exact answer_sound mixed Try.func32 _ _ _ (k + 1) (fun j _ => tab_sound (tab_nil)) _ _ h
  · exact (Ans.no_val h).elim

/-! loop.example/g00790/laws.eqRow -/
def laws_eqRow.b {R : Type} (ret : Bool → Option R) (k : Nat) (a0_0 : Int) (a0_1z : Bool) (a0_1 : List Int) (a1_0 : Int) (a1_1z : Bool) (a1_1 : List Int) : Option R :=
  cond (!(decide (a0_0 = a1_0))) (ret false) ((laws_eqByteS.f k a0_1z a0_1 a1_1z a1_1).bind fun t0 => cond (!t0) (ret false) (ret true))
def laws_eqRow.f : Nat → Int → Bool → (List Int) → Int → Bool → (List Int) → Option Bool
  | 0, _, _, _, _, _, _ => none
  | k + 1, a0_0, a0_1z, a0_1, a1_0, a1_1z, a1_1 => laws_eqRow.b some k a0_0 a0_1z a0_1 a1_0 a1_1z a1_1
def laws_eqRow.enc (r : Bool) : Res := ⟨[.vals false [((.bool r), true)]], []⟩
def laws_eqRow.ans (k : Nat) : List Arg → Ans
  | [.v (.agg [(.int .i64 a0_0), (.nums 5 .u8 a0_1z a0_1)]), .v (.agg [(.int .i64 a1_0), (.nums 5 .u8 a1_1z a1_1)])] => ⟨laws_eqRow.f k a0_0 a0_1z a0_1 a1_0 a1_1z a1_1, laws_eqRow.enc⟩
  | _ => Ans.no
def laws_eqRow.Cs (k : Nat) : CallSem := tab [(32, laws_eqByteS.ans k)]
def laws_eqRow.cuts : List (Nat × Keep) := []
theorem laws_eqRow.s (k : Nat) (a0_0 : Int) (a0_1z : Bool) (a0_1 : List Int) (a1_0 : Int) (a1_1z : Bool) (a1_1 : List Int) : answer Try.prog laws_eqRow.Cs 100000 laws_eqRow.cuts [] Try.f186 (k + 1) [.v (.agg [(.int .i64 a0_0), (.nums 5 .u8 a0_1z a0_1)]), .v (.agg [(.int .i64 a1_0), (.nums 5 .u8 a1_1z a1_1)])] = laws_eqRow.b (fun r => some (laws_eqRow.enc r)) k a0_0 a0_1z a0_1 a1_0 a1_1z a1_1 := by kernel_rfl
theorem laws_eqRow.b_nat {R R' : Type} (e : R → R') (ret : Bool → Option R) (k : Nat) (a0_0 : Int) (a0_1z : Bool) (a0_1 : List Int) (a1_0 : Int) (a1_1z : Bool) (a1_1 : List Int) : laws_eqRow.b (fun r => (ret r).map e) k a0_0 a0_1z a0_1 a1_0 a1_1z a1_1 = (laws_eqRow.b ret k a0_0 a0_1z a0_1 a1_0 a1_1z a1_1).map e := by
  unfold laws_eqRow.b
  repeat' first | with_reducible refine nat_cond ?_ ?_ | with_reducible refine nat_bind fun _ => ?_ | rfl
theorem laws_eqRow.eq (k : Nat) (a0_0 : Int) (a0_1z : Bool) (a0_1 : List Int) (a1_0 : Int) (a1_1z : Bool) (a1_1 : List Int) : answer Try.prog laws_eqRow.Cs 100000 laws_eqRow.cuts [] Try.f186 (k + 1) [.v (.agg [(.int .i64 a0_0), (.nums 5 .u8 a0_1z a0_1)]), .v (.agg [(.int .i64 a1_0), (.nums 5 .u8 a1_1z a1_1)])] = (laws_eqRow.f (k + 1) a0_0 a0_1z a0_1 a1_0 a1_1z a1_1).map laws_eqRow.enc := by
  refine (laws_eqRow.s k a0_0 a0_1z a0_1 a1_0 a1_1z a1_1).trans (Eq.trans ?_ (laws_eqRow.b_nat laws_eqRow.enc some k a0_0 a0_1z a0_1 a1_0 a1_1z a1_1))
  simp only [Option.map_some]
theorem laws_eqRow.sound (k : Nat) : SoundF Try.prog 186 (fun a => (laws_eqRow.ans k a).val) := by
  refine sound_plain (fun args res h => ?_) (fun t n => rfl)
  unfold laws_eqRow.ans at h
  dsimp only at h
  split at h
  · cases k with
    | zero => cases h
    | succ k =>
      unfold Ans.val at h
      rw [← laws_eqRow.eq] at h
      exact answer_sound mixed Try.func186 _ _ _ (k + 1) (fun j _ => tab_sound (tab_cons (laws_eqByteS.sound j) (tab_nil))) _ _ h
  · exact (Ans.no_val h).elim

/-! loop.example/g00790/laws.eqRowS -/
def laws_eqRowS.b {R : Type} (ret : Bool → Option R) (j0 : Bool → (List T) → Bool → (List T) → Int → Option R) (k : Nat) (a0z : Bool) (a0 : List T) (a1z : Bool) (a1 : List T) : Option R :=
  cond (!(decide (((a0).length : Int) = ((a1).length : Int)))) (ret false) (j0 a0z a0 a1z a1 0)
def laws_eqRowS.l0b {R : Type} (ret : Bool → Option R) (j0 : Bool → (List T) → Bool → (List T) → Int → Option R) (k : Nat) (x0z : Bool) (x0 : List T) (x1z : Bool) (x1 : List T) (x5 : Int) : Option R :=
  cond (decide (x5 < ((x0).length : Int))) (cond (decide ((0 : Int) ≤ x5)) (cond (decide (x5 < ((x0).length : Int))) (cond (decide ((0 : Int) ≤ x5)) (cond (decide (x5 < ((x1).length : Int))) ((laws_eqRow.f k (((((x0).getD (x5).toNat .bad).cells.getD 0 .bad)).toInt) (((((x0).getD (x5).toNat .bad).cells.getD 1 .bad)).isNil) (((((x0).getD (x5).toNat .bad).cells.getD 1 .bad)).toNums) (((((x1).getD (x5).toNat .bad).cells.getD 0 .bad)).toInt) (((((x1).getD (x5).toNat .bad).cells.getD 1 .bad)).isNil) (((((x1).getD (x5).toNat .bad).cells.getD 1 .bad)).toNums)).bind fun t0 => cond (!t0) (ret false) (j0 x0z x0 x1z x1 (RowKit.wrap64 (x5 + 1)))) (none)) (none)) (none)) (none)) (ret true)
def laws_eqRowS.l0 : Nat → Bool → (List T) → Bool → (List T) → Int → Option Bool
  | 0, _, _, _, _, _ => none
  | k + 1, x0z, x0, x1z, x1, x5 => laws_eqRowS.l0b some (laws_eqRowS.l0 k) k x0z x0 x1z x1 x5
def laws_eqRowS.f : Nat → Bool → (List T) → Bool → (List T) → Option Bool
  | 0, _, _, _, _ => none
  | k + 1, a0z, a0, a1z, a1 => laws_eqRowS.b some (laws_eqRowS.l0 k) k a0z a0 a1z a1
def laws_eqRowS.enc (r : Bool) : Res := ⟨[.vals false [((.bool r), true)]], []⟩
def laws_eqRowS.ans (k : Nat) : List Arg → Ans
  | [.v (.sl 44 a0z a0), .v (.sl 44 a1z a1)] => ⟨laws_eqRowS.f k a0z a0 a1z a1, laws_eqRowS.enc⟩
  | _ => Ans.no
def laws_eqRowS.Cs (k : Nat) : CallSem := tab [(186, laws_eqRow.ans k)]
def laws_eqRowS.cuts : List (Nat × Keep) := [(58, ⟨[(0, some []), (1, some []), (5, some [])], []⟩)]
noncomputable def laws_eqRowS.K0 : List Fr := framesAt [true, true, false, true, false] (bodyOf Try.f109 laws_eqRowS.cuts) []
def laws_eqRowS.N0 (x0z : Bool) (x0 : List T) (x1z : Bool) (x1 : List T) (x5 : Int) : St := stOf 27 27 2 [(0, .val ⟨(.sl 44 x0z x0), [], false, none⟩), (1, .val ⟨(.sl 44 x1z x1), [], false, none⟩), (5, .val (V.s (.int .i64 x5)))] []
theorem laws_eqRowS.s (k : Nat) (a0z : Bool) (a0 : List T) (a1z : Bool) (a1 : List T) : answer Try.prog laws_eqRowS.Cs 100000 laws_eqRowS.cuts [] Try.f109 (k + 1) [.v (.sl 44 a0z a0), .v (.sl 44 a1z a1)] = laws_eqRowS.b (fun r => some (laws_eqRowS.enc r)) (fun x0z x0 x1z x1 x5 => rounds Try.prog laws_eqRowS.Cs (finish Try.prog [] Try.f109 [.v (.sl 44 a0z a0), .v (.sl 44 a1z a1)]) 100000 k laws_eqRowS.K0 (laws_eqRowS.N0 x0z x0 x1z x1 x5)) k a0z a0 a1z a1 := by kernel_rfl
theorem laws_eqRowS.s0 (k : Nat) (G : List Fr → St → Option Res) (a0z : Bool) (a0 : List T) (a1z : Bool) (a1 : List T) (yx0z : Bool) (yx0 : List T) (yx1z : Bool) (yx1 : List T) (yx5 : Int) : resume Try.prog (laws_eqRowS.Cs k) G (finish Try.prog [] Try.f109 [.v (.sl 44 a0z a0), .v (.sl 44 a1z a1)]) 100000 laws_eqRowS.K0 (laws_eqRowS.N0 yx0z yx0 yx1z yx1 yx5) = laws_eqRowS.l0b (fun r => some (laws_eqRowS.enc r)) (fun x0z x0 x1z x1 x5 => G laws_eqRowS.K0 (laws_eqRowS.N0 x0z x0 x1z x1 x5)) k yx0z yx0 yx1z yx1 yx5 := by kernel_rfl
theorem laws_eqRowS.b_nat {R R' : Type} (e : R → R') (ret : Bool → Option R) (j0 : Bool → (List T) → Bool → (List T) → Int → Option R) (k : Nat) (a0z : Bool) (a0 : List T) (a1z : Bool) (a1 : List T) : laws_eqRowS.b (fun r => (ret r).map e) (fun x0z x0 x1z x1 x5 => (j0 x0z x0 x1z x1 x5).map e) k a0z a0 a1z a1 = (laws_eqRowS.b ret j0 k a0z a0 a1z a1).map e := by
  unfold laws_eqRowS.b
  repeat' first | with_reducible refine nat_cond ?_ ?_ | with_reducible refine nat_bind fun _ => ?_ | rfl
theorem laws_eqRowS.l0b_nat {R R' : Type} (e : R → R') (ret : Bool → Option R) (j0 : Bool → (List T) → Bool → (List T) → Int → Option R) (k : Nat) (x0z : Bool) (x0 : List T) (x1z : Bool) (x1 : List T) (x5 : Int) : laws_eqRowS.l0b (fun r => (ret r).map e) (fun x0z x0 x1z x1 x5 => (j0 x0z x0 x1z x1 x5).map e) k x0z x0 x1z x1 x5 = (laws_eqRowS.l0b ret j0 k x0z x0 x1z x1 x5).map e := by
  unfold laws_eqRowS.l0b
  repeat' first | with_reducible refine nat_cond ?_ ?_ | with_reducible refine nat_bind fun _ => ?_ | rfl
theorem laws_eqRowS.rounds_eq (a0z : Bool) (a0 : List T) (a1z : Bool) (a1 : List T) : ∀ k, (∀ (x0z : Bool) (x0 : List T) (x1z : Bool) (x1 : List T) (x5 : Int), rounds Try.prog laws_eqRowS.Cs (finish Try.prog [] Try.f109 [.v (.sl 44 a0z a0), .v (.sl 44 a1z a1)]) 100000 k laws_eqRowS.K0 (laws_eqRowS.N0 x0z x0 x1z x1 x5) = (laws_eqRowS.l0 k x0z x0 x1z x1 x5).map laws_eqRowS.enc)
  | 0 => fun _ _ _ _ _ => rfl
  | k + 1 => by
    have ih := laws_eqRowS.rounds_eq a0z a0 a1z a1 k
    refine fun _ _ _ _ _ => ?_
    · refine (laws_eqRowS.s0 k _ a0z a0 a1z a1 _ _ _ _ _).trans (Eq.trans ?_ (laws_eqRowS.l0b_nat laws_eqRowS.enc some (laws_eqRowS.l0 k) k _ _ _ _ _))
      simp only [ih, Option.map_some]
theorem laws_eqRowS.eq (k : Nat) (a0z : Bool) (a0 : List T) (a1z : Bool) (a1 : List T) : answer Try.prog laws_eqRowS.Cs 100000 laws_eqRowS.cuts [] Try.f109 (k + 1) [.v (.sl 44 a0z a0), .v (.sl 44 a1z a1)] = (laws_eqRowS.f (k + 1) a0z a0 a1z a1).map laws_eqRowS.enc := by
  have ih := laws_eqRowS.rounds_eq a0z a0 a1z a1 k
  refine (laws_eqRowS.s k a0z a0 a1z a1).trans (Eq.trans ?_ (laws_eqRowS.b_nat laws_eqRowS.enc some (laws_eqRowS.l0 k) k a0z a0 a1z a1))
  simp only [ih, Option.map_some]
theorem laws_eqRowS.sound (k : Nat) : SoundF Try.prog 109 (fun a => (laws_eqRowS.ans k a).val) := by
  refine sound_plain (fun args res h => ?_) (fun t n => rfl)
  unfold laws_eqRowS.ans at h
  dsimp only at h
  split at h
  · cases k with
    | zero => cases h
    | succ k =>
      unfold Ans.val at h
      rw [← laws_eqRowS.eq] at h
      exact answer_sound mixed Try.func109 _ _ _ (k + 1) (fun j _ => tab_sound (tab_cons (laws_eqRow.sound j) (tab_nil))) _ _ h
  · exact (Ans.no_val h).elim

/-! loop.example/g00790/laws.eqTable -/
def laws_eqTable.b {R : Type} (ret : Bool → Option R) (k : Nat) (a0_0z : Bool) (a0_0 : List T) (a1_0z : Bool) (a1_0 : List T) : Option R :=
  (laws_eqRowS.f k a0_0z a0_0 a1_0z a1_0).bind fun t0 => cond (!t0) (ret false) (ret true)
def laws_eqTable.f : Nat → Bool → (List T) → Bool → (List T) → Option Bool
  | 0, _, _, _, _ => none
  | k + 1, a0_0z, a0_0, a1_0z, a1_0 => laws_eqTable.b some k a0_0z a0_0 a1_0z a1_0
def laws_eqTable.enc (r : Bool) : Res := ⟨[.vals false [((.bool r), true)]], []⟩
def laws_eqTable.ans (k : Nat) : List Arg → Ans
  | [.v (.agg [(.sl 44 a0_0z a0_0)]), .v (.agg [(.sl 44 a1_0z a1_0)])] => ⟨laws_eqTable.f k a0_0z a0_0 a1_0z a1_0, laws_eqTable.enc⟩
  | _ => Ans.no
def laws_eqTable.Cs (k : Nat) : CallSem := tab [(109, laws_eqRowS.ans k)]
def laws_eqTable.cuts : List (Nat × Keep) := []
theorem laws_eqTable.s (k : Nat) (a0_0z : Bool) (a0_0 : List T) (a1_0z : Bool) (a1_0 : List T) : answer Try.prog laws_eqTable.Cs 100000 laws_eqTable.cuts [] Try.f31 (k + 1) [.v (.agg [(.sl 44 a0_0z a0_0)]), .v (.agg [(.sl 44 a1_0z a1_0)])] = laws_eqTable.b (fun r => some (laws_eqTable.enc r)) k a0_0z a0_0 a1_0z a1_0 := by kernel_rfl
theorem laws_eqTable.b_nat {R R' : Type} (e : R → R') (ret : Bool → Option R) (k : Nat) (a0_0z : Bool) (a0_0 : List T) (a1_0z : Bool) (a1_0 : List T) : laws_eqTable.b (fun r => (ret r).map e) k a0_0z a0_0 a1_0z a1_0 = (laws_eqTable.b ret k a0_0z a0_0 a1_0z a1_0).map e := by
  unfold laws_eqTable.b
  repeat' first | with_reducible refine nat_cond ?_ ?_ | with_reducible refine nat_bind fun _ => ?_ | rfl
theorem laws_eqTable.eq (k : Nat) (a0_0z : Bool) (a0_0 : List T) (a1_0z : Bool) (a1_0 : List T) : answer Try.prog laws_eqTable.Cs 100000 laws_eqTable.cuts [] Try.f31 (k + 1) [.v (.agg [(.sl 44 a0_0z a0_0)]), .v (.agg [(.sl 44 a1_0z a1_0)])] = (laws_eqTable.f (k + 1) a0_0z a0_0 a1_0z a1_0).map laws_eqTable.enc := by
  refine (laws_eqTable.s k a0_0z a0_0 a1_0z a1_0).trans (Eq.trans ?_ (laws_eqTable.b_nat laws_eqTable.enc some k a0_0z a0_0 a1_0z a1_0))
  simp only [Option.map_some]
theorem laws_eqTable.sound (k : Nat) : SoundF Try.prog 31 (fun a => (laws_eqTable.ans k a).val) := by
  refine sound_plain (fun args res h => ?_) (fun t n => rfl)
  unfold laws_eqTable.ans at h
  dsimp only at h
  split at h
  · cases k with
    | zero => cases h
    | succ k =>
      unfold Ans.val at h
      rw [← laws_eqTable.eq] at h
      exact answer_sound mixed Try.func31 _ _ _ (k + 1) (fun j _ => tab_sound (tab_cons (laws_eqRowS.sound j) (tab_nil))) _ _ h
  · exact (Ans.no_val h).elim

/-! loop.example/g00790/laws.eqByteSS -/
def laws_eqByteSS.b {R : Type} (ret : Bool → Option R) (j0 : Bool → (List T) → Bool → (List T) → Int → Option R) (k : Nat) (a0z : Bool) (a0 : List T) (a1z : Bool) (a1 : List T) : Option R :=
  cond (!(decide (((a0).length : Int) = ((a1).length : Int)))) (ret false) (j0 a0z a0 a1z a1 0)
def laws_eqByteSS.l0b {R : Type} (ret : Bool → Option R) (j0 : Bool → (List T) → Bool → (List T) → Int → Option R) (k : Nat) (x0z : Bool) (x0 : List T) (x1z : Bool) (x1 : List T) (x5 : Int) : Option R :=
  cond (decide (x5 < ((x0).length : Int))) (cond (decide ((0 : Int) ≤ x5)) (cond (decide (x5 < ((x0).length : Int))) (cond (decide ((0 : Int) ≤ x5)) (cond (decide (x5 < ((x1).length : Int))) ((laws_eqByteS.f k (((((x0).getD (x5).toNat .bad).cells.getD 0 .bad)).isNil) (((((x0).getD (x5).toNat .bad).cells.getD 0 .bad)).toNums) (((((x1).getD (x5).toNat .bad).cells.getD 0 .bad)).isNil) (((((x1).getD (x5).toNat .bad).cells.getD 0 .bad)).toNums)).bind fun t0 => cond (!t0) (ret false) (j0 x0z x0 x1z x1 (RowKit.wrap64 (x5 + 1)))) (none)) (none)) (none)) (none)) (ret true)
def laws_eqByteSS.l0 : Nat → Bool → (List T) → Bool → (List T) → Int → Option Bool
  | 0, _, _, _, _, _ => none
  | k + 1, x0z, x0, x1z, x1, x5 => laws_eqByteSS.l0b some (laws_eqByteSS.l0 k) k x0z x0 x1z x1 x5
def laws_eqByteSS.f : Nat → Bool → (List T) → Bool → (List T) → Option Bool
  | 0, _, _, _, _ => none
  | k + 1, a0z, a0, a1z, a1 => laws_eqByteSS.b some (laws_eqByteSS.l0 k) k a0z a0 a1z a1
def laws_eqByteSS.enc (r : Bool) : Res := ⟨[.vals false [((.bool r), true)]], []⟩
def laws_eqByteSS.ans (k : Nat) : List Arg → Ans
  | [.v (.sl 22 a0z a0), .v (.sl 22 a1z a1)] => ⟨laws_eqByteSS.f k a0z a0 a1z a1, laws_eqByteSS.enc⟩
  | _ => Ans.no
def laws_eqByteSS.Cs (k : Nat) : CallSem := tab [(32, laws_eqByteS.ans k)]
def laws_eqByteSS.cuts : List (Nat × Keep) := [(58, ⟨[(0, some []), (1, some []), (5, some [])], []⟩)]
noncomputable def laws_eqByteSS.K0 : List Fr := framesAt [true, true, false, true, false] (bodyOf Try.f60 laws_eqByteSS.cuts) []
def laws_eqByteSS.N0 (x0z : Bool) (x0 : List T) (x1z : Bool) (x1 : List T) (x5 : Int) : St := stOf 27 27 2 [(0, .val ⟨(.sl 22 x0z x0), [], false, none⟩), (1, .val ⟨(.sl 22 x1z x1), [], false, none⟩), (5, .val (V.s (.int .i64 x5)))] []
theorem laws_eqByteSS.s (k : Nat) (a0z : Bool) (a0 : List T) (a1z : Bool) (a1 : List T) : answer Try.prog laws_eqByteSS.Cs 100000 laws_eqByteSS.cuts [] Try.f60 (k + 1) [.v (.sl 22 a0z a0), .v (.sl 22 a1z a1)] = laws_eqByteSS.b (fun r => some (laws_eqByteSS.enc r)) (fun x0z x0 x1z x1 x5 => rounds Try.prog laws_eqByteSS.Cs (finish Try.prog [] Try.f60 [.v (.sl 22 a0z a0), .v (.sl 22 a1z a1)]) 100000 k laws_eqByteSS.K0 (laws_eqByteSS.N0 x0z x0 x1z x1 x5)) k a0z a0 a1z a1 := by kernel_rfl
theorem laws_eqByteSS.s0 (k : Nat) (G : List Fr → St → Option Res) (a0z : Bool) (a0 : List T) (a1z : Bool) (a1 : List T) (yx0z : Bool) (yx0 : List T) (yx1z : Bool) (yx1 : List T) (yx5 : Int) : resume Try.prog (laws_eqByteSS.Cs k) G (finish Try.prog [] Try.f60 [.v (.sl 22 a0z a0), .v (.sl 22 a1z a1)]) 100000 laws_eqByteSS.K0 (laws_eqByteSS.N0 yx0z yx0 yx1z yx1 yx5) = laws_eqByteSS.l0b (fun r => some (laws_eqByteSS.enc r)) (fun x0z x0 x1z x1 x5 => G laws_eqByteSS.K0 (laws_eqByteSS.N0 x0z x0 x1z x1 x5)) k yx0z yx0 yx1z yx1 yx5 := by kernel_rfl
theorem laws_eqByteSS.b_nat {R R' : Type} (e : R → R') (ret : Bool → Option R) (j0 : Bool → (List T) → Bool → (List T) → Int → Option R) (k : Nat) (a0z : Bool) (a0 : List T) (a1z : Bool) (a1 : List T) : laws_eqByteSS.b (fun r => (ret r).map e) (fun x0z x0 x1z x1 x5 => (j0 x0z x0 x1z x1 x5).map e) k a0z a0 a1z a1 = (laws_eqByteSS.b ret j0 k a0z a0 a1z a1).map e := by
  unfold laws_eqByteSS.b
  repeat' first | with_reducible refine nat_cond ?_ ?_ | with_reducible refine nat_bind fun _ => ?_ | rfl
theorem laws_eqByteSS.l0b_nat {R R' : Type} (e : R → R') (ret : Bool → Option R) (j0 : Bool → (List T) → Bool → (List T) → Int → Option R) (k : Nat) (x0z : Bool) (x0 : List T) (x1z : Bool) (x1 : List T) (x5 : Int) : laws_eqByteSS.l0b (fun r => (ret r).map e) (fun x0z x0 x1z x1 x5 => (j0 x0z x0 x1z x1 x5).map e) k x0z x0 x1z x1 x5 = (laws_eqByteSS.l0b ret j0 k x0z x0 x1z x1 x5).map e := by
  unfold laws_eqByteSS.l0b
  repeat' first | with_reducible refine nat_cond ?_ ?_ | with_reducible refine nat_bind fun _ => ?_ | rfl
theorem laws_eqByteSS.rounds_eq (a0z : Bool) (a0 : List T) (a1z : Bool) (a1 : List T) : ∀ k, (∀ (x0z : Bool) (x0 : List T) (x1z : Bool) (x1 : List T) (x5 : Int), rounds Try.prog laws_eqByteSS.Cs (finish Try.prog [] Try.f60 [.v (.sl 22 a0z a0), .v (.sl 22 a1z a1)]) 100000 k laws_eqByteSS.K0 (laws_eqByteSS.N0 x0z x0 x1z x1 x5) = (laws_eqByteSS.l0 k x0z x0 x1z x1 x5).map laws_eqByteSS.enc)
  | 0 => fun _ _ _ _ _ => rfl
  | k + 1 => by
    have ih := laws_eqByteSS.rounds_eq a0z a0 a1z a1 k
    refine fun _ _ _ _ _ => ?_
    · refine (laws_eqByteSS.s0 k _ a0z a0 a1z a1 _ _ _ _ _).trans (Eq.trans ?_ (laws_eqByteSS.l0b_nat laws_eqByteSS.enc some (laws_eqByteSS.l0 k) k _ _ _ _ _))
      simp only [ih, Option.map_some]
theorem laws_eqByteSS.eq (k : Nat) (a0z : Bool) (a0 : List T) (a1z : Bool) (a1 : List T) : answer Try.prog laws_eqByteSS.Cs 100000 laws_eqByteSS.cuts [] Try.f60 (k + 1) [.v (.sl 22 a0z a0), .v (.sl 22 a1z a1)] = (laws_eqByteSS.f (k + 1) a0z a0 a1z a1).map laws_eqByteSS.enc := by
  have ih := laws_eqByteSS.rounds_eq a0z a0 a1z a1 k
  refine (laws_eqByteSS.s k a0z a0 a1z a1).trans (Eq.trans ?_ (laws_eqByteSS.b_nat laws_eqByteSS.enc some (laws_eqByteSS.l0 k) k a0z a0 a1z a1))
  simp only [ih, Option.map_some]
theorem laws_eqByteSS.sound (k : Nat) : SoundF Try.prog 60 (fun a => (laws_eqByteSS.ans k a).val) := by
  refine sound_plain (fun args res h => ?_) (fun t n => rfl)
  unfold laws_eqByteSS.ans at h
  dsimp only at h
  split at h
  · cases k with
    | zero => cases h
    | succ k =>
      unfold Ans.val at h
      rw [← laws_eqByteSS.eq] at h
      exact answer_sound mixed Try.func60 _ _ _ (k + 1) (fun j _ => tab_sound (tab_cons (laws_eqByteS.sound j) (tab_nil))) _ _ h
  · exact (Ans.no_val h).elim

/-! loop.example/g00790/laws.eqQc -/
def laws_eqQc.b {R : Type} (ret : Bool → Option R) (k : Nat) (a0_0 : Int) (a0_1 : Int) (a0_2z : Bool) (a0_2 : List Int) (a0_3z : Bool) (a0_3 : List Int) (a0_4z : Bool) (a0_4 : List T) (a1_0 : Int) (a1_1 : Int) (a1_2z : Bool) (a1_2 : List Int) (a1_3z : Bool) (a1_3 : List Int) (a1_4z : Bool) (a1_4 : List T) : Option R :=
  cond (!(decide (a0_0 = a1_0))) (ret false) (cond (!(decide (a0_1 = a1_1))) (ret false) ((laws_eqByteS.f k a0_2z a0_2 a1_2z a1_2).bind fun t0 => cond (!t0) (ret false) ((laws_eqByteS.f k a0_3z a0_3 a1_3z a1_3).bind fun t1 => cond (!t1) (ret false) ((laws_eqByteSS.f k a0_4z a0_4 a1_4z a1_4).bind fun t2 => cond (!t2) (ret false) (ret true)))))
def laws_eqQc.f : Nat → Int → Int → Bool → (List Int) → Bool → (List Int) → Bool → (List T) → Int → Int → Bool → (List Int) → Bool → (List Int) → Bool → (List T) → Option Bool
  | 0, _, _, _, _, _, _, _, _, _, _, _, _, _, _, _, _ => none
  | k + 1, a0_0, a0_1, a0_2z, a0_2, a0_3z, a0_3, a0_4z, a0_4, a1_0, a1_1, a1_2z, a1_2, a1_3z, a1_3, a1_4z, a1_4 => laws_eqQc.b some k a0_0 a0_1 a0_2z a0_2 a0_3z a0_3 a0_4z a0_4 a1_0 a1_1 a1_2z a1_2 a1_3z a1_3 a1_4z a1_4
def laws_eqQc.enc (r : Bool) : Res := ⟨[.vals false [((.bool r), true)]], []⟩
def laws_eqQc.ans (k : Nat) : List Arg → Ans
  | [.v (.agg [(.int .i64 a0_0), (.int .i64 a0_1), (.nums 5 .u8 a0_2z a0_2), (.nums 5 .u8 a0_3z a0_3), (.sl 22 a0_4z a0_4)]), .v (.agg [(.int .i64 a1_0), (.int .i64 a1_1), (.nums 5 .u8 a1_2z a1_2), (.nums 5 .u8 a1_3z a1_3), (.sl 22 a1_4z a1_4)])] => ⟨laws_eqQc.f k a0_0 a0_1 a0_2z a0_2 a0_3z a0_3 a0_4z a0_4 a1_0 a1_1 a1_2z a1_2 a1_3z a1_3 a1_4z a1_4, laws_eqQc.enc⟩
  | _ => Ans.no
def laws_eqQc.Cs (k : Nat) : CallSem := tab [(32, laws_eqByteS.ans k), (60, laws_eqByteSS.ans k)]
def laws_eqQc.cuts : List (Nat × Keep) := []
theorem laws_eqQc.s (k : Nat) (a0_0 : Int) (a0_1 : Int) (a0_2z : Bool) (a0_2 : List Int) (a0_3z : Bool) (a0_3 : List Int) (a0_4z : Bool) (a0_4 : List T) (a1_0 : Int) (a1_1 : Int) (a1_2z : Bool) (a1_2 : List Int) (a1_3z : Bool) (a1_3 : List Int) (a1_4z : Bool) (a1_4 : List T) : answer Try.prog laws_eqQc.Cs 100000 laws_eqQc.cuts [] Try.f78 (k + 1) [.v (.agg [(.int .i64 a0_0), (.int .i64 a0_1), (.nums 5 .u8 a0_2z a0_2), (.nums 5 .u8 a0_3z a0_3), (.sl 22 a0_4z a0_4)]), .v (.agg [(.int .i64 a1_0), (.int .i64 a1_1), (.nums 5 .u8 a1_2z a1_2), (.nums 5 .u8 a1_3z a1_3), (.sl 22 a1_4z a1_4)])] = laws_eqQc.b (fun r => some (laws_eqQc.enc r)) k a0_0 a0_1 a0_2z a0_2 a0_3z a0_3 a0_4z a0_4 a1_0 a1_1 a1_2z a1_2 a1_3z a1_3 a1_4z a1_4 := by kernel_rfl
theorem laws_eqQc.b_nat {R R' : Type} (e : R → R') (ret : Bool → Option R) (k : Nat) (a0_0 : Int) (a0_1 : Int) (a0_2z : Bool) (a0_2 : List Int) (a0_3z : Bool) (a0_3 : List Int) (a0_4z : Bool) (a0_4 : List T) (a1_0 : Int) (a1_1 : Int) (a1_2z : Bool) (a1_2 : List Int) (a1_3z : Bool) (a1_3 : List Int) (a1_4z : Bool) (a1_4 : List T) : laws_eqQc.b (fun r => (ret r).map e) k a0_0 a0_1 a0_2z a0_2 a0_3z a0_3 a0_4z a0_4 a1_0 a1_1 a1_2z a1_2 a1_3z a1_3 a1_4z a1_4 = (laws_eqQc.b ret k a0_0 a0_1 a0_2z a0_2 a0_3z a0_3 a0_4z a0_4 a1_0 a1_1 a1_2z a1_2 a1_3z a1_3 a1_4z a1_4).map e := by
  unfold laws_eqQc.b
  repeat' first | with_reducible refine nat_cond ?_ ?_ | with_reducible refine nat_bind fun _ => ?_ | rfl
theorem laws_eqQc.eq (k : Nat) (a0_0 : Int) (a0_1 : Int) (a0_2z : Bool) (a0_2 : List Int) (a0_3z : Bool) (a0_3 : List Int) (a0_4z : Bool) (a0_4 : List T) (a1_0 : Int) (a1_1 : Int) (a1_2z : Bool) (a1_2 : List Int) (a1_3z : Bool) (a1_3 : List Int) (a1_4z : Bool) (a1_4 : List T) : answer Try.prog laws_eqQc.Cs 100000 laws_eqQc.cuts [] Try.f78 (k + 1) [.v (.agg [(.int .i64 a0_0), (.int .i64 a0_1), (.nums 5 .u8 a0_2z a0_2), (.nums 5 .u8 a0_3z a0_3), (.sl 22 a0_4z a0_4)]), .v (.agg [(.int .i64 a1_0), (.int .i64 a1_1), (.nums 5 .u8 a1_2z a1_2), (.nums 5 .u8 a1_3z a1_3), (.sl 22 a1_4z a1_4)])] = (laws_eqQc.f (k + 1) a0_0 a0_1 a0_2z a0_2 a0_3z a0_3 a0_4z a0_4 a1_0 a1_1 a1_2z a1_2 a1_3z a1_3 a1_4z a1_4).map laws_eqQc.enc := by
  refine (laws_eqQc.s k a0_0 a0_1 a0_2z a0_2 a0_3z a0_3 a0_4z a0_4 a1_0 a1_1 a1_2z a1_2 a1_3z a1_3 a1_4z a1_4).trans (Eq.trans ?_ (laws_eqQc.b_nat laws_eqQc.enc some k a0_0 a0_1 a0_2z a0_2 a0_3z a0_3 a0_4z a0_4 a1_0 a1_1 a1_2z a1_2 a1_3z a1_3 a1_4z a1_4))
  simp only [Option.map_some]
theorem laws_eqQc.sound (k : Nat) : SoundF Try.prog 78 (fun a => (laws_eqQc.ans k a).val) := by
  refine sound_plain (fun args res h => ?_) (fun t n => rfl)
  unfold laws_eqQc.ans at h
  dsimp only at h
  split at h
  · cases k with
    | zero => cases h
    | succ k =>
      unfold Ans.val at h
      rw [← laws_eqQc.eq] at h
      exact answer_sound mixed Try.func78 _ _ _ (k + 1) (fun j _ => tab_sound (tab_cons (laws_eqByteS.sound j) (tab_cons (laws_eqByteSS.sound j) (tab_nil)))) _ _ h
  · exact (Ans.no_val h).elim

/-! loop.example/g00790/laws.markByteS -/
def laws_markByteS.b {R : Type} (ret : Int × Bool × List Int → Option R) (j0 : Bool → (List Int) → Int → Int → Option R) (k : Nat) (a0z : Bool) (a0 : List Int) (a1 : Int) : Option R :=
  j0 a0z a0 a1 0
def laws_markByteS.l0b {R : Type} (ret : Int × Bool × List Int → Option R) (j0 : Bool → (List Int) → Int → Int → Option R) (k : Nat) (x0z : Bool) (x0 : List Int) (x1 : Int) (x5 : Int) : Option R :=
  cond (decide (x5 < ((x0).length : Int))) (cond (decide ((0 : Int) ≤ x5)) (cond (decide (x5 < ((x0).length : Int))) (j0 x0z ((x0).set (x5).toNat ((x1) % 256)) (RowKit.wrap64 (x1 + 1)) (RowKit.wrap64 (x5 + 1))) (none)) (none)) (ret (x1, x0z, x0))
def laws_markByteS.l0 : Nat → Bool → (List Int) → Int → Int → Option (Int × Bool × List Int)
  | 0, _, _, _, _ => none
  | k + 1, x0z, x0, x1, x5 => laws_markByteS.l0b some (laws_markByteS.l0 k) k x0z x0 x1 x5
def laws_markByteS.f : Nat → Bool → (List Int) → Int → Option (Int × Bool × List Int)
  | 0, _, _, _ => none
  | k + 1, a0z, a0, a1 => laws_markByteS.b some (laws_markByteS.l0 k) k a0z a0 a1
def laws_markByteS.enc (r : Int × Bool × List Int) : Res := ⟨[.vals false [((.int .i64 r.1), true)]], [[((.nums 5 .u8 r.2.1 r.2.2), true)]]⟩
def laws_markByteS.ans (k : Nat) : List Arg → Ans
  | [.own (.nums 5 .u8 a0z a0), .v (.int .i64 a1)] => ⟨laws_markByteS.f k a0z a0 a1, laws_markByteS.enc⟩
  | _ => Ans.no
def laws_markByteS.Cs (k : Nat) : CallSem := tab []
def laws_markByteS.cuts : List (Nat × Keep) := [(26, ⟨[(0, none), (1, some []), (5, some [])], []⟩)]
noncomputable def laws_markByteS.K0 : List Fr := framesAt [true, false, true, false] (bodyOf Try.f34 laws_markByteS.cuts) []
def laws_markByteS.N0 (x0z : Bool) (x0 : List Int) (x1 : Int) (x5 : Int) : St := stOf 20 20 2 [(0, .val ⟨(.nums 5 .u8 x0z x0), [.h 0], true, some (.h 0)⟩), (1, .val (V.s (.int .i64 x1))), (5, .val (V.s (.int .i64 x5)))] []
theorem laws_markByteS.s (k : Nat) (a0z : Bool) (a0 : List Int) (a1 : Int) : answerM Try.prog laws_markByteS.Cs 100000 laws_markByteS.cuts Try.f34 (k + 1) [.own (.nums 5 .u8 a0z a0), .v (.int .i64 a1)] = laws_markByteS.b (fun r => some (laws_markByteS.enc r)) (fun x0z x0 x1 x5 => rounds Try.prog laws_markByteS.Cs (finishM Try.prog Try.f34 (.nums 5 .u8 a0z a0)) 100000 k laws_markByteS.K0 (laws_markByteS.N0 x0z x0 x1 x5)) k a0z a0 a1 := by kernel_rfl
theorem laws_markByteS.s0 (k : Nat) (G : List Fr → St → Option Res) (a0z : Bool) (a0 : List Int) (a1 : Int) (yx0z : Bool) (yx0 : List Int) (yx1 : Int) (yx5 : Int) : resume Try.prog (laws_markByteS.Cs k) G (finishM Try.prog Try.f34 (.nums 5 .u8 a0z a0)) 100000 laws_markByteS.K0 (laws_markByteS.N0 yx0z yx0 yx1 yx5) = laws_markByteS.l0b (fun r => some (laws_markByteS.enc r)) (fun x0z x0 x1 x5 => G laws_markByteS.K0 (laws_markByteS.N0 x0z x0 x1 x5)) k yx0z yx0 yx1 yx5 := by kernel_rfl
theorem laws_markByteS.b_nat {R R' : Type} (e : R → R') (ret : Int × Bool × List Int → Option R) (j0 : Bool → (List Int) → Int → Int → Option R) (k : Nat) (a0z : Bool) (a0 : List Int) (a1 : Int) : laws_markByteS.b (fun r => (ret r).map e) (fun x0z x0 x1 x5 => (j0 x0z x0 x1 x5).map e) k a0z a0 a1 = (laws_markByteS.b ret j0 k a0z a0 a1).map e := by
  unfold laws_markByteS.b
  repeat' first | with_reducible refine nat_cond ?_ ?_ | with_reducible refine nat_bind fun _ => ?_ | rfl
theorem laws_markByteS.l0b_nat {R R' : Type} (e : R → R') (ret : Int × Bool × List Int → Option R) (j0 : Bool → (List Int) → Int → Int → Option R) (k : Nat) (x0z : Bool) (x0 : List Int) (x1 : Int) (x5 : Int) : laws_markByteS.l0b (fun r => (ret r).map e) (fun x0z x0 x1 x5 => (j0 x0z x0 x1 x5).map e) k x0z x0 x1 x5 = (laws_markByteS.l0b ret j0 k x0z x0 x1 x5).map e := by
  unfold laws_markByteS.l0b
  repeat' first | with_reducible refine nat_cond ?_ ?_ | with_reducible refine nat_bind fun _ => ?_ | rfl
theorem laws_markByteS.rounds_eq (a0z : Bool) (a0 : List Int) (a1 : Int) : ∀ k, (∀ (x0z : Bool) (x0 : List Int) (x1 : Int) (x5 : Int), rounds Try.prog laws_markByteS.Cs (finishM Try.prog Try.f34 (.nums 5 .u8 a0z a0)) 100000 k laws_markByteS.K0 (laws_markByteS.N0 x0z x0 x1 x5) = (laws_markByteS.l0 k x0z x0 x1 x5).map laws_markByteS.enc)
  | 0 => fun _ _ _ _ => rfl
  | k + 1 => by
    have ih := laws_markByteS.rounds_eq a0z a0 a1 k
    refine fun _ _ _ _ => ?_
    · refine (laws_markByteS.s0 k _ a0z a0 a1 _ _ _ _).trans (Eq.trans ?_ (laws_markByteS.l0b_nat laws_markByteS.enc some (laws_markByteS.l0 k) k _ _ _ _))
      simp only [ih, Option.map_some]
theorem laws_markByteS.eq (k : Nat) (a0z : Bool) (a0 : List Int) (a1 : Int) : answerM Try.prog laws_markByteS.Cs 100000 laws_markByteS.cuts Try.f34 (k + 1) [.own (.nums 5 .u8 a0z a0), .v (.int .i64 a1)] = (laws_markByteS.f (k + 1) a0z a0 a1).map laws_markByteS.enc := by
  have ih := laws_markByteS.rounds_eq a0z a0 a1 k
  refine (laws_markByteS.s k a0z a0 a1).trans (Eq.trans ?_ (laws_markByteS.b_nat laws_markByteS.enc some (laws_markByteS.l0 k) k a0z a0 a1))
  simp only [ih, Option.map_some]
theorem laws_markByteS.sound (k : Nat) : SoundF Try.prog 34 (fun a => (laws_markByteS.ans k a).val) := by
  refine sound_mark (fun args hne => ?_) (fun t n l m h => ?_)
  · unfold laws_markByteS.ans
    split
    · exact (hne _ _ rfl).elim
    · rfl
  unfold laws_markByteS.ans at h
  dsimp only at h
  split at h
  · rename_i heq
    cases heq
    cases k with
    | zero => cases h
    | succ k =>
      unfold Ans.val at h
      rw [← laws_markByteS.eq] at h
      exact answerM_sound (Cs := laws_markByteS.Cs) mixed Try.func34 100000 laws_markByteS.cuts (k + 1) (fun j _ => tab_sound (tab_nil)) _ _ _ _ h
  · exact (Ans.no_val h).elim

/-! loop.example/g00790/laws.markRowS -/
def laws_markRowS.b {R : Type} (ret : Int × Bool × List T → Option R) (j0 : Bool → (List T) → Int → Int → Option R) (k : Nat) (a0z : Bool) (a0 : List T) (a1 : Int) : Option R :=
  j0 a0z a0 a1 0
def laws_markRowS.l0b {R : Type} (ret : Int × Bool × List T → Option R) (j0 : Bool → (List T) → Int → Int → Option R) (k : Nat) (x0z : Bool) (x0 : List T) (x1 : Int) (x5 : Int) : Option R :=
  cond (decide (x5 < ((x0).length : Int))) (cond (decide ((0 : Int) ≤ x5)) (cond (decide (x5 < ((x0).length : Int))) (cond (decide ((0 : Int) ≤ x5)) (cond (decide (x5 < ((((x0).set (x5).toNat (.agg [(.int .i64 x1), (.nums 5 .u8 ((((x0).getD (x5).toNat .bad).cells.getD 1 .bad)).isNil ((((x0).getD (x5).toNat .bad).cells.getD 1 .bad)).toNums)]))).length : Int))) ((laws_markByteS.f k (((((((x0).set (x5).toNat (.agg [(.int .i64 x1), (.nums 5 .u8 ((((x0).getD (x5).toNat .bad).cells.getD 1 .bad)).isNil ((((x0).getD (x5).toNat .bad).cells.getD 1 .bad)).toNums)]))).getD (x5).toNat .bad).cells.getD 1 .bad)).isNil) (((((((x0).set (x5).toNat (.agg [(.int .i64 x1), (.nums 5 .u8 ((((x0).getD (x5).toNat .bad).cells.getD 1 .bad)).isNil ((((x0).getD (x5).toNat .bad).cells.getD 1 .bad)).toNums)]))).getD (x5).toNat .bad).cells.getD 1 .bad)).toNums) (RowKit.wrap64 (x1 + 1))).bind fun t0 => j0 x0z ((((x0).set (x5).toNat (.agg [(.int .i64 x1), (.nums 5 .u8 ((((x0).getD (x5).toNat .bad).cells.getD 1 .bad)).isNil ((((x0).getD (x5).toNat .bad).cells.getD 1 .bad)).toNums)]))).set (x5).toNat (.agg [(.int .i64 ((((((x0).set (x5).toNat (.agg [(.int .i64 x1), (.nums 5 .u8 ((((x0).getD (x5).toNat .bad).cells.getD 1 .bad)).isNil ((((x0).getD (x5).toNat .bad).cells.getD 1 .bad)).toNums)]))).getD (x5).toNat .bad).cells.getD 0 .bad)).toInt), (.nums 5 .u8 t0.2.1 t0.2.2)])) t0.1 (RowKit.wrap64 (x5 + 1))) (none)) (none)) (none)) (none)) (ret (x1, x0z, x0))
def laws_markRowS.l0 : Nat → Bool → (List T) → Int → Int → Option (Int × Bool × List T)
  | 0, _, _, _, _ => none
  | k + 1, x0z, x0, x1, x5 => laws_markRowS.l0b some (laws_markRowS.l0 k) k x0z x0 x1 x5
def laws_markRowS.f : Nat → Bool → (List T) → Int → Option (Int × Bool × List T)
  | 0, _, _, _ => none
  | k + 1, a0z, a0, a1 => laws_markRowS.b some (laws_markRowS.l0 k) k a0z a0 a1
def laws_markRowS.enc (r : Int × Bool × List T) : Res := ⟨[.vals false [((.int .i64 r.1), true)]], [[((.sl 44 r.2.1 r.2.2), true)]]⟩
def laws_markRowS.ans (k : Nat) : List Arg → Ans
  | [.own (.sl 44 a0z a0), .v (.int .i64 a1)] => ⟨laws_markRowS.f k a0z a0 a1, laws_markRowS.enc⟩
  | _ => Ans.no
def laws_markRowS.Cs (k : Nat) : CallSem := tab [(34, laws_markByteS.ans k)]
def laws_markRowS.cuts : List (Nat × Keep) := [(26, ⟨[(0, none), (1, some []), (5, some [])], []⟩)]
noncomputable def laws_markRowS.K0 : List Fr := framesAt [true, false, true, false] (bodyOf Try.f110 laws_markRowS.cuts) []
def laws_markRowS.N0 (x0z : Bool) (x0 : List T) (x1 : Int) (x5 : Int) : St := stOf 27 27 2 [(0, .val ⟨(.sl 44 x0z x0), [.h 0], true, some (.h 0)⟩), (1, .val (V.s (.int .i64 x1))), (5, .val (V.s (.int .i64 x5)))] []
theorem laws_markRowS.s (k : Nat) (a0z : Bool) (a0 : List T) (a1 : Int) : answerM Try.prog laws_markRowS.Cs 100000 laws_markRowS.cuts Try.f110 (k + 1) [.own (.sl 44 a0z a0), .v (.int .i64 a1)] = laws_markRowS.b (fun r => some (laws_markRowS.enc r)) (fun x0z x0 x1 x5 => rounds Try.prog laws_markRowS.Cs (finishM Try.prog Try.f110 (.sl 44 a0z a0)) 100000 k laws_markRowS.K0 (laws_markRowS.N0 x0z x0 x1 x5)) k a0z a0 a1 := by kernel_rfl
theorem laws_markRowS.s0 (k : Nat) (G : List Fr → St → Option Res) (a0z : Bool) (a0 : List T) (a1 : Int) (yx0z : Bool) (yx0 : List T) (yx1 : Int) (yx5 : Int) : resume Try.prog (laws_markRowS.Cs k) G (finishM Try.prog Try.f110 (.sl 44 a0z a0)) 100000 laws_markRowS.K0 (laws_markRowS.N0 yx0z yx0 yx1 yx5) = laws_markRowS.l0b (fun r => some (laws_markRowS.enc r)) (fun x0z x0 x1 x5 => G laws_markRowS.K0 (laws_markRowS.N0 x0z x0 x1 x5)) k yx0z yx0 yx1 yx5 := by kernel_rfl
theorem laws_markRowS.b_nat {R R' : Type} (e : R → R') (ret : Int × Bool × List T → Option R) (j0 : Bool → (List T) → Int → Int → Option R) (k : Nat) (a0z : Bool) (a0 : List T) (a1 : Int) : laws_markRowS.b (fun r => (ret r).map e) (fun x0z x0 x1 x5 => (j0 x0z x0 x1 x5).map e) k a0z a0 a1 = (laws_markRowS.b ret j0 k a0z a0 a1).map e := by
  unfold laws_markRowS.b
  repeat' first | with_reducible refine nat_cond ?_ ?_ | with_reducible refine nat_bind fun _ => ?_ | rfl
theorem laws_markRowS.l0b_nat {R R' : Type} (e : R → R') (ret : Int × Bool × List T → Option R) (j0 : Bool → (List T) → Int → Int → Option R) (k : Nat) (x0z : Bool) (x0 : List T) (x1 : Int) (x5 : Int) : laws_markRowS.l0b (fun r => (ret r).map e) (fun x0z x0 x1 x5 => (j0 x0z x0 x1 x5).map e) k x0z x0 x1 x5 = (laws_markRowS.l0b ret j0 k x0z x0 x1 x5).map e := by
  unfold laws_markRowS.l0b
  repeat' first | with_reducible refine nat_cond ?_ ?_ | with_reducible refine nat_bind fun _ => ?_ | rfl
theorem laws_markRowS.rounds_eq (a0z : Bool) (a0 : List T) (a1 : Int) : ∀ k, (∀ (x0z : Bool) (x0 : List T) (x1 : Int) (x5 : Int), rounds Try.prog laws_markRowS.Cs (finishM Try.prog Try.f110 (.sl 44 a0z a0)) 100000 k laws_markRowS.K0 (laws_markRowS.N0 x0z x0 x1 x5) = (laws_markRowS.l0 k x0z x0 x1 x5).map laws_markRowS.enc)
  | 0 => fun _ _ _ _ => rfl
  | k + 1 => by
    have ih := laws_markRowS.rounds_eq a0z a0 a1 k
    refine fun _ _ _ _ => ?_
    · refine (laws_markRowS.s0 k _ a0z a0 a1 _ _ _ _).trans (Eq.trans ?_ (laws_markRowS.l0b_nat laws_markRowS.enc some (laws_markRowS.l0 k) k _ _ _ _))
      simp only [ih, Option.map_some]
theorem laws_markRowS.eq (k : Nat) (a0z : Bool) (a0 : List T) (a1 : Int) : answerM Try.prog laws_markRowS.Cs 100000 laws_markRowS.cuts Try.f110 (k + 1) [.own (.sl 44 a0z a0), .v (.int .i64 a1)] = (laws_markRowS.f (k + 1) a0z a0 a1).map laws_markRowS.enc := by
  have ih := laws_markRowS.rounds_eq a0z a0 a1 k
  refine (laws_markRowS.s k a0z a0 a1).trans (Eq.trans ?_ (laws_markRowS.b_nat laws_markRowS.enc some (laws_markRowS.l0 k) k a0z a0 a1))
  simp only [ih, Option.map_some]
theorem laws_markRowS.sound (k : Nat) : SoundF Try.prog 110 (fun a => (laws_markRowS.ans k a).val) := by
  refine sound_mark (fun args hne => ?_) (fun t n l m h => ?_)
  · unfold laws_markRowS.ans
    split
    · exact (hne _ _ rfl).elim
    · rfl
  unfold laws_markRowS.ans at h
  dsimp only at h
  split at h
  · rename_i heq
    cases heq
    cases k with
    | zero => cases h
    | succ k =>
      unfold Ans.val at h
      rw [← laws_markRowS.eq] at h
      exact answerM_sound (Cs := laws_markRowS.Cs) mixed Try.func110 100000 laws_markRowS.cuts (k + 1) (fun j _ => tab_sound (tab_cons (laws_markByteS.sound j) (tab_nil))) _ _ _ _ h
  · exact (Ans.no_val h).elim

/-! loop.example/g00790/laws.markTable -/
def laws_markTable.b {R : Type} (ret : Int × Bool × List T → Option R) (k : Nat) (a0_0z : Bool) (a0_0 : List T) (a1 : Int) : Option R :=
  (laws_markRowS.f k a0_0z a0_0 a1).bind fun t0 => ret (t0.1, t0.2.1, t0.2.2)
def laws_markTable.f : Nat → Bool → (List T) → Int → Option (Int × Bool × List T)
  | 0, _, _, _ => none
  | k + 1, a0_0z, a0_0, a1 => laws_markTable.b some k a0_0z a0_0 a1
def laws_markTable.enc (r : Int × Bool × List T) : Res := ⟨[.vals false [((.int .i64 r.1), true)]], [[((.sl 44 r.2.1 r.2.2), true)]]⟩
def laws_markTable.ans (k : Nat) : List Arg → Ans
  | [.own (.agg [(.sl 44 a0_0z a0_0)]), .v (.int .i64 a1)] => ⟨laws_markTable.f k a0_0z a0_0 a1, laws_markTable.enc⟩
  | _ => Ans.no
def laws_markTable.Cs (k : Nat) : CallSem := tab [(110, laws_markRowS.ans k)]
def laws_markTable.cuts : List (Nat × Keep) := []
theorem laws_markTable.s (k : Nat) (a0_0z : Bool) (a0_0 : List T) (a1 : Int) : answerM Try.prog laws_markTable.Cs 100000 laws_markTable.cuts Try.f33 (k + 1) [.own (.agg [(.sl 44 a0_0z a0_0)]), .v (.int .i64 a1)] = laws_markTable.b (fun r => some (laws_markTable.enc r)) k a0_0z a0_0 a1 := by kernel_rfl
theorem laws_markTable.b_nat {R R' : Type} (e : R → R') (ret : Int × Bool × List T → Option R) (k : Nat) (a0_0z : Bool) (a0_0 : List T) (a1 : Int) : laws_markTable.b (fun r => (ret r).map e) k a0_0z a0_0 a1 = (laws_markTable.b ret k a0_0z a0_0 a1).map e := by
  unfold laws_markTable.b
  repeat' first | with_reducible refine nat_cond ?_ ?_ | with_reducible refine nat_bind fun _ => ?_ | rfl
theorem laws_markTable.eq (k : Nat) (a0_0z : Bool) (a0_0 : List T) (a1 : Int) : answerM Try.prog laws_markTable.Cs 100000 laws_markTable.cuts Try.f33 (k + 1) [.own (.agg [(.sl 44 a0_0z a0_0)]), .v (.int .i64 a1)] = (laws_markTable.f (k + 1) a0_0z a0_0 a1).map laws_markTable.enc := by
  refine (laws_markTable.s k a0_0z a0_0 a1).trans (Eq.trans ?_ (laws_markTable.b_nat laws_markTable.enc some k a0_0z a0_0 a1))
  simp only [Option.map_some]
theorem laws_markTable.sound (k : Nat) : SoundF Try.prog 33 (fun a => (laws_markTable.ans k a).val) := by
  refine sound_mark (fun args hne => ?_) (fun t n l m h => ?_)
  · unfold laws_markTable.ans
    split
    · exact (hne _ _ rfl).elim
    · rfl
  unfold laws_markTable.ans at h
  dsimp only at h
  split at h
  · rename_i heq
    cases heq
    cases k with
    | zero => cases h
    | succ k =>
      unfold Ans.val at h
      rw [← laws_markTable.eq] at h
      exact answerM_sound (Cs := laws_markTable.Cs) mixed Try.func33 100000 laws_markTable.cuts (k + 1) (fun j _ => tab_sound (tab_cons (laws_markRowS.sound j) (tab_nil))) _ _ _ _ h
  · exact (Ans.no_val h).elim

/-! loop.example/g00790/laws.markByteSS -/
def laws_markByteSS.b {R : Type} (ret : Int × Bool × List T → Option R) (j0 : Bool → (List T) → Int → Int → Option R) (k : Nat) (a0z : Bool) (a0 : List T) (a1 : Int) : Option R :=
  j0 a0z a0 a1 0
def laws_markByteSS.l0b {R : Type} (ret : Int × Bool × List T → Option R) (j0 : Bool → (List T) → Int → Int → Option R) (k : Nat) (x0z : Bool) (x0 : List T) (x1 : Int) (x5 : Int) : Option R :=
  cond (decide (x5 < ((x0).length : Int))) (cond (decide ((0 : Int) ≤ x5)) (cond (decide (x5 < ((x0).length : Int))) ((laws_markByteS.f k (((((x0).getD (x5).toNat .bad).cells.getD 0 .bad)).isNil) (((((x0).getD (x5).toNat .bad).cells.getD 0 .bad)).toNums) x1).bind fun t0 => j0 x0z ((x0).set (x5).toNat (.nums 5 .u8 t0.2.1 t0.2.2)) t0.1 (RowKit.wrap64 (x5 + 1))) (none)) (none)) (ret (x1, x0z, x0))
def laws_markByteSS.l0 : Nat → Bool → (List T) → Int → Int → Option (Int × Bool × List T)
  | 0, _, _, _, _ => none
  | k + 1, x0z, x0, x1, x5 => laws_markByteSS.l0b some (laws_markByteSS.l0 k) k x0z x0 x1 x5
def laws_markByteSS.f : Nat → Bool → (List T) → Int → Option (Int × Bool × List T)
  | 0, _, _, _ => none
  | k + 1, a0z, a0, a1 => laws_markByteSS.b some (laws_markByteSS.l0 k) k a0z a0 a1
def laws_markByteSS.enc (r : Int × Bool × List T) : Res := ⟨[.vals false [((.int .i64 r.1), true)]], [[((.sl 22 r.2.1 r.2.2), true)]]⟩
def laws_markByteSS.ans (k : Nat) : List Arg → Ans
  | [.own (.sl 22 a0z a0), .v (.int .i64 a1)] => ⟨laws_markByteSS.f k a0z a0 a1, laws_markByteSS.enc⟩
  | _ => Ans.no
def laws_markByteSS.Cs (k : Nat) : CallSem := tab [(34, laws_markByteS.ans k)]
def laws_markByteSS.cuts : List (Nat × Keep) := [(26, ⟨[(0, none), (1, some []), (5, some [])], []⟩)]
noncomputable def laws_markByteSS.K0 : List Fr := framesAt [true, false, true, false] (bodyOf Try.f63 laws_markByteSS.cuts) []
def laws_markByteSS.N0 (x0z : Bool) (x0 : List T) (x1 : Int) (x5 : Int) : St := stOf 19 19 2 [(0, .val ⟨(.sl 22 x0z x0), [.h 0], true, some (.h 0)⟩), (1, .val (V.s (.int .i64 x1))), (5, .val (V.s (.int .i64 x5)))] []
theorem laws_markByteSS.s (k : Nat) (a0z : Bool) (a0 : List T) (a1 : Int) : answerM Try.prog laws_markByteSS.Cs 100000 laws_markByteSS.cuts Try.f63 (k + 1) [.own (.sl 22 a0z a0), .v (.int .i64 a1)] = laws_markByteSS.b (fun r => some (laws_markByteSS.enc r)) (fun x0z x0 x1 x5 => rounds Try.prog laws_markByteSS.Cs (finishM Try.prog Try.f63 (.sl 22 a0z a0)) 100000 k laws_markByteSS.K0 (laws_markByteSS.N0 x0z x0 x1 x5)) k a0z a0 a1 := by kernel_rfl
theorem laws_markByteSS.s0 (k : Nat) (G : List Fr → St → Option Res) (a0z : Bool) (a0 : List T) (a1 : Int) (yx0z : Bool) (yx0 : List T) (yx1 : Int) (yx5 : Int) : resume Try.prog (laws_markByteSS.Cs k) G (finishM Try.prog Try.f63 (.sl 22 a0z a0)) 100000 laws_markByteSS.K0 (laws_markByteSS.N0 yx0z yx0 yx1 yx5) = laws_markByteSS.l0b (fun r => some (laws_markByteSS.enc r)) (fun x0z x0 x1 x5 => G laws_markByteSS.K0 (laws_markByteSS.N0 x0z x0 x1 x5)) k yx0z yx0 yx1 yx5 := by kernel_rfl
theorem laws_markByteSS.b_nat {R R' : Type} (e : R → R') (ret : Int × Bool × List T → Option R) (j0 : Bool → (List T) → Int → Int → Option R) (k : Nat) (a0z : Bool) (a0 : List T) (a1 : Int) : laws_markByteSS.b (fun r => (ret r).map e) (fun x0z x0 x1 x5 => (j0 x0z x0 x1 x5).map e) k a0z a0 a1 = (laws_markByteSS.b ret j0 k a0z a0 a1).map e := by
  unfold laws_markByteSS.b
  repeat' first | with_reducible refine nat_cond ?_ ?_ | with_reducible refine nat_bind fun _ => ?_ | rfl
theorem laws_markByteSS.l0b_nat {R R' : Type} (e : R → R') (ret : Int × Bool × List T → Option R) (j0 : Bool → (List T) → Int → Int → Option R) (k : Nat) (x0z : Bool) (x0 : List T) (x1 : Int) (x5 : Int) : laws_markByteSS.l0b (fun r => (ret r).map e) (fun x0z x0 x1 x5 => (j0 x0z x0 x1 x5).map e) k x0z x0 x1 x5 = (laws_markByteSS.l0b ret j0 k x0z x0 x1 x5).map e := by
  unfold laws_markByteSS.l0b
  repeat' first | with_reducible refine nat_cond ?_ ?_ | with_reducible refine nat_bind fun _ => ?_ | rfl
theorem laws_markByteSS.rounds_eq (a0z : Bool) (a0 : List T) (a1 : Int) : ∀ k, (∀ (x0z : Bool) (x0 : List T) (x1 : Int) (x5 : Int), rounds Try.prog laws_markByteSS.Cs (finishM Try.prog Try.f63 (.sl 22 a0z a0)) 100000 k laws_markByteSS.K0 (laws_markByteSS.N0 x0z x0 x1 x5) = (laws_markByteSS.l0 k x0z x0 x1 x5).map laws_markByteSS.enc)
  | 0 => fun _ _ _ _ => rfl
  | k + 1 => by
    have ih := laws_markByteSS.rounds_eq a0z a0 a1 k
    refine fun _ _ _ _ => ?_
    · refine (laws_markByteSS.s0 k _ a0z a0 a1 _ _ _ _).trans (Eq.trans ?_ (laws_markByteSS.l0b_nat laws_markByteSS.enc some (laws_markByteSS.l0 k) k _ _ _ _))
      simp only [ih, Option.map_some]
theorem laws_markByteSS.eq (k : Nat) (a0z : Bool) (a0 : List T) (a1 : Int) : answerM Try.prog laws_markByteSS.Cs 100000 laws_markByteSS.cuts Try.f63 (k + 1) [.own (.sl 22 a0z a0), .v (.int .i64 a1)] = (laws_markByteSS.f (k + 1) a0z a0 a1).map laws_markByteSS.enc := by
  have ih := laws_markByteSS.rounds_eq a0z a0 a1 k
  refine (laws_markByteSS.s k a0z a0 a1).trans (Eq.trans ?_ (laws_markByteSS.b_nat laws_markByteSS.enc some (laws_markByteSS.l0 k) k a0z a0 a1))
  simp only [ih, Option.map_some]
theorem laws_markByteSS.sound (k : Nat) : SoundF Try.prog 63 (fun a => (laws_markByteSS.ans k a).val) := by
  refine sound_mark (fun args hne => ?_) (fun t n l m h => ?_)
  · unfold laws_markByteSS.ans
    split
    · exact (hne _ _ rfl).elim
    · rfl
  unfold laws_markByteSS.ans at h
  dsimp only at h
  split at h
  · rename_i heq
    cases heq
    cases k with
    | zero => cases h
    | succ k =>
      unfold Ans.val at h
      rw [← laws_markByteSS.eq] at h
      exact answerM_sound (Cs := laws_markByteSS.Cs) mixed Try.func63 100000 laws_markByteSS.cuts (k + 1) (fun j _ => tab_sound (tab_cons (laws_markByteS.sound j) (tab_nil))) _ _ _ _ h
  · exact (Ans.no_val h).elim

/-! loop.example/g00790/laws.markQc -/
def laws_markQc.b {R : Type} (ret : Int × Int × Int × Bool × (List Int) × Bool × (List Int) × Bool × List T → Option R) (k : Nat) (a0_0 : Int) (a0_1 : Int) (a0_2z : Bool) (a0_2 : List Int) (a0_3z : Bool) (a0_3 : List Int) (a0_4z : Bool) (a0_4 : List T) (a1 : Int) : Option R :=
  (laws_markByteS.f k a0_2z a0_2 a1).bind fun t0 => (laws_markByteS.f k a0_3z a0_3 t0.1).bind fun t1 => (laws_markByteSS.f k a0_4z a0_4 t1.1).bind fun t2 => ret (t2.1, a0_0, a0_1, t0.2.1, t0.2.2, t1.2.1, t1.2.2, t2.2.1, t2.2.2)
def laws_markQc.f : Nat → Int → Int → Bool → (List Int) → Bool → (List Int) → Bool → (List T) → Int → Option (Int × Int × Int × Bool × (List Int) × Bool × (List Int) × Bool × List T)
  | 0, _, _, _, _, _, _, _, _, _ => none
  | k + 1, a0_0, a0_1, a0_2z, a0_2, a0_3z, a0_3, a0_4z, a0_4, a1 => laws_markQc.b some k a0_0 a0_1 a0_2z a0_2 a0_3z a0_3 a0_4z a0_4 a1
def laws_markQc.enc (r : Int × Int × Int × Bool × (List Int) × Bool × (List Int) × Bool × List T) : Res := ⟨[.vals false [((.int .i64 r.1), true)]], [[((.int .i64 r.2.1), true), ((.int .i64 r.2.2.1), true), ((.nums 5 .u8 r.2.2.2.1 r.2.2.2.2.1), true), ((.nums 5 .u8 r.2.2.2.2.2.1 r.2.2.2.2.2.2.1), true), ((.sl 22 r.2.2.2.2.2.2.2.1 r.2.2.2.2.2.2.2.2), true)]]⟩
def laws_markQc.ans (k : Nat) : List Arg → Ans
  | [.own (.agg [(.int .i64 a0_0), (.int .i64 a0_1), (.nums 5 .u8 a0_2z a0_2), (.nums 5 .u8 a0_3z a0_3), (.sl 22 a0_4z a0_4)]), .v (.int .i64 a1)] => ⟨laws_markQc.f k a0_0 a0_1 a0_2z a0_2 a0_3z a0_3 a0_4z a0_4 a1, laws_markQc.enc⟩
  | _ => Ans.no
def laws_markQc.Cs (k : Nat) : CallSem := tab [(34, laws_markByteS.ans k), (63, laws_markByteSS.ans k)]
def laws_markQc.cuts : List (Nat × Keep) := []
theorem laws_markQc.s (k : Nat) (a0_0 : Int) (a0_1 : Int) (a0_2z : Bool) (a0_2 : List Int) (a0_3z : Bool) (a0_3 : List Int) (a0_4z : Bool) (a0_4 : List T) (a1 : Int) : answerM Try.prog laws_markQc.Cs 100000 laws_markQc.cuts Try.f79 (k + 1) [.own (.agg [(.int .i64 a0_0), (.int .i64 a0_1), (.nums 5 .u8 a0_2z a0_2), (.nums 5 .u8 a0_3z a0_3), (.sl 22 a0_4z a0_4)]), .v (.int .i64 a1)] = laws_markQc.b (fun r => some (laws_markQc.enc r)) k a0_0 a0_1 a0_2z a0_2 a0_3z a0_3 a0_4z a0_4 a1 := by kernel_rfl
theorem laws_markQc.b_nat {R R' : Type} (e : R → R') (ret : Int × Int × Int × Bool × (List Int) × Bool × (List Int) × Bool × List T → Option R) (k : Nat) (a0_0 : Int) (a0_1 : Int) (a0_2z : Bool) (a0_2 : List Int) (a0_3z : Bool) (a0_3 : List Int) (a0_4z : Bool) (a0_4 : List T) (a1 : Int) : laws_markQc.b (fun r => (ret r).map e) k a0_0 a0_1 a0_2z a0_2 a0_3z a0_3 a0_4z a0_4 a1 = (laws_markQc.b ret k a0_0 a0_1 a0_2z a0_2 a0_3z a0_3 a0_4z a0_4 a1).map e := by
  unfold laws_markQc.b
  repeat' first | with_reducible refine nat_cond ?_ ?_ | with_reducible refine nat_bind fun _ => ?_ | rfl
theorem laws_markQc.eq (k : Nat) (a0_0 : Int) (a0_1 : Int) (a0_2z : Bool) (a0_2 : List Int) (a0_3z : Bool) (a0_3 : List Int) (a0_4z : Bool) (a0_4 : List T) (a1 : Int) : answerM Try.prog laws_markQc.Cs 100000 laws_markQc.cuts Try.f79 (k + 1) [.own (.agg [(.int .i64 a0_0), (.int .i64 a0_1), (.nums 5 .u8 a0_2z a0_2), (.nums 5 .u8 a0_3z a0_3), (.sl 22 a0_4z a0_4)]), .v (.int .i64 a1)] = (laws_markQc.f (k + 1) a0_0 a0_1 a0_2z a0_2 a0_3z a0_3 a0_4z a0_4 a1).map laws_markQc.enc := by
  refine (laws_markQc.s k a0_0 a0_1 a0_2z a0_2 a0_3z a0_3 a0_4z a0_4 a1).trans (Eq.trans ?_ (laws_markQc.b_nat laws_markQc.enc some k a0_0 a0_1 a0_2z a0_2 a0_3z a0_3 a0_4z a0_4 a1))
  simp only [Option.map_some]
theorem laws_markQc.sound (k : Nat) : SoundF Try.prog 79 (fun a => (laws_markQc.ans k a).val) := by
  refine sound_mark (fun args hne => ?_) (fun t n l m h => ?_)
  · unfold laws_markQc.ans
    split
    · exact (hne _ _ rfl).elim
    · rfl
  unfold laws_markQc.ans at h
  dsimp only at h
  split at h
  · rename_i heq
    cases heq
    cases k with
    | zero => cases h
    | succ k =>
      unfold Ans.val at h
      rw [← laws_markQc.eq] at h
      exact answerM_sound (Cs := laws_markQc.Cs) mixed Try.func79 100000 laws_markQc.cuts (k + 1) (fun j _ => tab_sound (tab_cons (laws_markByteS.sound j) (tab_cons (laws_markByteSS.sound j) (tab_nil)))) _ _ _ _ h
  · exact (Ans.no_val h).elim

/-! loop.example/g00790/laws.heldByteS -/
def laws_heldByteS.b {R : Type} (ret : Int → Option R) (j0 : Bool → (List Int) → Int → Int → Option R) (k : Nat) (a0z : Bool) (a0 : List Int) (a1 : Int) : Option R :=
  j0 a0z a0 a1 0
def laws_heldByteS.l0b {R : Type} (ret : Int → Option R) (j0 : Bool → (List Int) → Int → Int → Option R) (k : Nat) (x0z : Bool) (x0 : List Int) (x1 : Int) (x5 : Int) : Option R :=
  cond (decide (x5 < ((x0).length : Int))) (cond (decide ((0 : Int) ≤ x5)) (cond (decide (x5 < ((x0).length : Int))) (cond (!(decide ((rdI x0 x5) = ((x1) % 256)))) (ret (-1)) (j0 x0z x0 (RowKit.wrap64 (x1 + 1)) (RowKit.wrap64 (x5 + 1)))) (none)) (none)) (ret x1)
def laws_heldByteS.l0 : Nat → Bool → (List Int) → Int → Int → Option Int
  | 0, _, _, _, _ => none
  | k + 1, x0z, x0, x1, x5 => laws_heldByteS.l0b some (laws_heldByteS.l0 k) k x0z x0 x1 x5
def laws_heldByteS.f : Nat → Bool → (List Int) → Int → Option Int
  | 0, _, _, _ => none
  | k + 1, a0z, a0, a1 => laws_heldByteS.b some (laws_heldByteS.l0 k) k a0z a0 a1
def laws_heldByteS.enc (r : Int) : Res := ⟨[.vals false [((.int .i64 r), true)]], []⟩
def laws_heldByteS.ans (k : Nat) : List Arg → Ans
  | [.v (.nums 5 .u8 a0z a0), .v (.int .i64 a1)] => ⟨laws_heldByteS.f k a0z a0 a1, laws_heldByteS.enc⟩
  | _ => Ans.no
def laws_heldByteS.Cs (k : Nat) : CallSem := tab []
def laws_heldByteS.cuts : List (Nat × Keep) := [(26, ⟨[(0, some []), (1, some []), (5, some [])], []⟩)]
noncomputable def laws_heldByteS.K0 : List Fr := framesAt [true, false, true, false] (bodyOf Try.f80 laws_heldByteS.cuts) []
def laws_heldByteS.N0 (x0z : Bool) (x0 : List Int) (x1 : Int) (x5 : Int) : St := stOf 22 22 2 [(0, .val ⟨(.nums 5 .u8 x0z x0), [], false, none⟩), (1, .val (V.s (.int .i64 x1))), (5, .val (V.s (.int .i64 x5)))] []
theorem laws_heldByteS.s (k : Nat) (a0z : Bool) (a0 : List Int) (a1 : Int) : answer Try.prog laws_heldByteS.Cs 100000 laws_heldByteS.cuts [] Try.f80 (k + 1) [.v (.nums 5 .u8 a0z a0), .v (.int .i64 a1)] = laws_heldByteS.b (fun r => some (laws_heldByteS.enc r)) (fun x0z x0 x1 x5 => rounds Try.prog laws_heldByteS.Cs (finish Try.prog [] Try.f80 [.v (.nums 5 .u8 a0z a0), .v (.int .i64 a1)]) 100000 k laws_heldByteS.K0 (laws_heldByteS.N0 x0z x0 x1 x5)) k a0z a0 a1 := by kernel_rfl
theorem laws_heldByteS.s0 (k : Nat) (G : List Fr → St → Option Res) (a0z : Bool) (a0 : List Int) (a1 : Int) (yx0z : Bool) (yx0 : List Int) (yx1 : Int) (yx5 : Int) : resume Try.prog (laws_heldByteS.Cs k) G (finish Try.prog [] Try.f80 [.v (.nums 5 .u8 a0z a0), .v (.int .i64 a1)]) 100000 laws_heldByteS.K0 (laws_heldByteS.N0 yx0z yx0 yx1 yx5) = laws_heldByteS.l0b (fun r => some (laws_heldByteS.enc r)) (fun x0z x0 x1 x5 => G laws_heldByteS.K0 (laws_heldByteS.N0 x0z x0 x1 x5)) k yx0z yx0 yx1 yx5 := by kernel_rfl
theorem laws_heldByteS.b_nat {R R' : Type} (e : R → R') (ret : Int → Option R) (j0 : Bool → (List Int) → Int → Int → Option R) (k : Nat) (a0z : Bool) (a0 : List Int) (a1 : Int) : laws_heldByteS.b (fun r => (ret r).map e) (fun x0z x0 x1 x5 => (j0 x0z x0 x1 x5).map e) k a0z a0 a1 = (laws_heldByteS.b ret j0 k a0z a0 a1).map e := by
  unfold laws_heldByteS.b
  repeat' first | with_reducible refine nat_cond ?_ ?_ | with_reducible refine nat_bind fun _ => ?_ | rfl
theorem laws_heldByteS.l0b_nat {R R' : Type} (e : R → R') (ret : Int → Option R) (j0 : Bool → (List Int) → Int → Int → Option R) (k : Nat) (x0z : Bool) (x0 : List Int) (x1 : Int) (x5 : Int) : laws_heldByteS.l0b (fun r => (ret r).map e) (fun x0z x0 x1 x5 => (j0 x0z x0 x1 x5).map e) k x0z x0 x1 x5 = (laws_heldByteS.l0b ret j0 k x0z x0 x1 x5).map e := by
  unfold laws_heldByteS.l0b
  repeat' first | with_reducible refine nat_cond ?_ ?_ | with_reducible refine nat_bind fun _ => ?_ | rfl
theorem laws_heldByteS.rounds_eq (a0z : Bool) (a0 : List Int) (a1 : Int) : ∀ k, (∀ (x0z : Bool) (x0 : List Int) (x1 : Int) (x5 : Int), rounds Try.prog laws_heldByteS.Cs (finish Try.prog [] Try.f80 [.v (.nums 5 .u8 a0z a0), .v (.int .i64 a1)]) 100000 k laws_heldByteS.K0 (laws_heldByteS.N0 x0z x0 x1 x5) = (laws_heldByteS.l0 k x0z x0 x1 x5).map laws_heldByteS.enc)
  | 0 => fun _ _ _ _ => rfl
  | k + 1 => by
    have ih := laws_heldByteS.rounds_eq a0z a0 a1 k
    refine fun _ _ _ _ => ?_
    · refine (laws_heldByteS.s0 k _ a0z a0 a1 _ _ _ _).trans (Eq.trans ?_ (laws_heldByteS.l0b_nat laws_heldByteS.enc some (laws_heldByteS.l0 k) k _ _ _ _))
      simp only [ih, Option.map_some]
theorem laws_heldByteS.eq (k : Nat) (a0z : Bool) (a0 : List Int) (a1 : Int) : answer Try.prog laws_heldByteS.Cs 100000 laws_heldByteS.cuts [] Try.f80 (k + 1) [.v (.nums 5 .u8 a0z a0), .v (.int .i64 a1)] = (laws_heldByteS.f (k + 1) a0z a0 a1).map laws_heldByteS.enc := by
  have ih := laws_heldByteS.rounds_eq a0z a0 a1 k
  refine (laws_heldByteS.s k a0z a0 a1).trans (Eq.trans ?_ (laws_heldByteS.b_nat laws_heldByteS.enc some (laws_heldByteS.l0 k) k a0z a0 a1))
  simp only [ih, Option.map_some]
theorem laws_heldByteS.sound (k : Nat) : SoundF Try.prog 80 (fun a => (laws_heldByteS.ans k a).val) := by
  refine sound_plain (fun args res h => ?_) (fun t n => rfl)
  unfold laws_heldByteS.ans at h
  dsimp only at h
  split at h
  · cases k with
    | zero => cases h
    | succ k =>
      unfold Ans.val at h
      rw [← laws_heldByteS.eq] at h
      exact answer_sound mixed Try.func80 _ _ _ (k + 1) (fun j _ => tab_sound (tab_nil)) _ _ h
  · exact (Ans.no_val h).elim

/-! loop.example/g00790/laws.FnExactBlame -/
def laws_FnExactBlame.b {R : Type} (ret : Bool → Option R) (k : Nat) (a0_0z : Bool) (a0_0 : List T) (a1_0 : Int) (a1_1 : Int) (a1_2z : Bool) (a1_2 : List Int) (a1_3z : Bool) (a1_3 : List Int) (a1_4z : Bool) (a1_4 : List T) (a2_0 : Int) (a2_1 : Int) (a2_2z : Bool) (a2_2 : List Int) (a2_3z : Bool) (a2_3 : List Int) (a2_4z : Bool) (a2_4 : List T) : Option R :=
  (laws_szTable.f k a0_0z a0_0 1048576).bind fun t0 => cond (decide (t0 < 0)) (ret true) ((laws_szQc.f k a1_0 a1_1 a1_2z a1_2 a1_3z a1_3 a1_4z a1_4 t0).bind fun t1 => cond (decide (t1 < 0)) (ret true) ((laws_szQc.f k a2_0 a2_1 a2_2z a2_2 a2_3z a2_3 a2_4z a2_4 t1).bind fun t2 => cond (decide (t2 < 0)) (ret true) ((laws_toTable.f k a0_0z a0_0).bind fun t3 => (laws_toQc.f k a1_0 a1_1 a1_2z a1_2 a1_3z a1_3 a1_4z a1_4).bind fun t4 => (laws_toQc.f k a2_0 a2_1 a2_2z a2_2 a2_3z a2_3 a2_4z a2_4).bind fun t5 => (spec_Blame.f k t3.1 t3.2 t4.1 t4.2.1 t4.2.2.1 t4.2.2.2.1 t4.2.2.2.2.1 t4.2.2.2.2.2.1 t4.2.2.2.2.2.2.1 t4.2.2.2.2.2.2.2 t5.1 t5.2.1 t5.2.2.1 t5.2.2.2.1 t5.2.2.2.2.1 t5.2.2.2.2.2.1 t5.2.2.2.2.2.2.1 t5.2.2.2.2.2.2.2).bind fun t6 => (laws_toTable.f k a0_0z a0_0).bind fun t7 => (laws_toQc.f k a1_0 a1_1 a1_2z a1_2 a1_3z a1_3 a1_4z a1_4).bind fun t8 => (laws_toQc.f k a2_0 a2_1 a2_2z a2_2 a2_3z a2_3 a2_4z a2_4).bind fun t9 => (impl_Blame.f k t7.1 t7.2 t8.1 t8.2.1 t8.2.2.1 t8.2.2.2.1 t8.2.2.2.2.1 t8.2.2.2.2.2.1 t8.2.2.2.2.2.2.1 t8.2.2.2.2.2.2.2 t9.1 t9.2.1 t9.2.2.1 t9.2.2.2.1 t9.2.2.2.2.1 t9.2.2.2.2.2.1 t9.2.2.2.2.2.2.1 t9.2.2.2.2.2.2.2).bind fun t10 => (laws_eqByteS.f k t10.1 t10.2 t6.1 t6.2).bind fun t11 => cond (!t11) (ret false) ((laws_toTable.f k a0_0z a0_0).bind fun t12 => (laws_eqTable.f k t7.1 t7.2 t12.1 t12.2).bind fun t13 => cond (!t13) (ret false) ((laws_toQc.f k a1_0 a1_1 a1_2z a1_2 a1_3z a1_3 a1_4z a1_4).bind fun t14 => (laws_eqQc.f k t8.1 t8.2.1 t8.2.2.1 t8.2.2.2.1 t8.2.2.2.2.1 t8.2.2.2.2.2.1 t8.2.2.2.2.2.2.1 t8.2.2.2.2.2.2.2 t14.1 t14.2.1 t14.2.2.1 t14.2.2.2.1 t14.2.2.2.2.1 t14.2.2.2.2.2.1 t14.2.2.2.2.2.2.1 t14.2.2.2.2.2.2.2).bind fun t15 => cond (!t15) (ret false) ((laws_toQc.f k a2_0 a2_1 a2_2z a2_2 a2_3z a2_3 a2_4z a2_4).bind fun t16 => (laws_eqQc.f k t9.1 t9.2.1 t9.2.2.1 t9.2.2.2.1 t9.2.2.2.2.1 t9.2.2.2.2.2.1 t9.2.2.2.2.2.2.1 t9.2.2.2.2.2.2.2 t16.1 t16.2.1 t16.2.2.1 t16.2.2.2.1 t16.2.2.2.2.1 t16.2.2.2.2.2.1 t16.2.2.2.2.2.2.1 t16.2.2.2.2.2.2.2).bind fun t17 => cond (!t17) (ret false) ((laws_markTable.f k t7.1 t7.2 1).bind fun t18 => (laws_markQc.f k t8.1 t8.2.1 t8.2.2.1 t8.2.2.2.1 t8.2.2.2.2.1 t8.2.2.2.2.2.1 t8.2.2.2.2.2.2.1 t8.2.2.2.2.2.2.2 t18.1).bind fun t19 => (laws_markQc.f k t9.1 t9.2.1 t9.2.2.1 t9.2.2.2.1 t9.2.2.2.2.1 t9.2.2.2.2.2.1 t9.2.2.2.2.2.2.1 t9.2.2.2.2.2.2.2 t19.1).bind fun t20 => cond (decide (t20.1 < 0)) (ret false) ((laws_eqByteS.f k t10.1 t10.2 t6.1 t6.2).bind fun t21 => cond (!t21) (ret false) ((laws_markByteS.f k t10.1 t10.2 1).bind fun t22 => (laws_heldByteS.f k t22.2.1 t22.2.2 1).bind fun t23 => cond (decide (t23 < 0)) (ret false) (cond (!(decide (t23 = t22.1))) (ret false) ((laws_toTable.f k a0_0z a0_0).bind fun t24 => (laws_toQc.f k a1_0 a1_1 a1_2z a1_2 a1_3z a1_3 a1_4z a1_4).bind fun t25 => (laws_toQc.f k a2_0 a2_1 a2_2z a2_2 a2_3z a2_3 a2_4z a2_4).bind fun t26 => (impl_Blame.f k t24.1 t24.2 t25.1 t25.2.1 t25.2.2.1 t25.2.2.2.1 t25.2.2.2.2.1 t25.2.2.2.2.2.1 t25.2.2.2.2.2.2.1 t25.2.2.2.2.2.2.2 t26.1 t26.2.1 t26.2.2.1 t26.2.2.2.1 t26.2.2.2.2.1 t26.2.2.2.2.2.1 t26.2.2.2.2.2.2.1 t26.2.2.2.2.2.2.2).bind fun t27 => (laws_eqByteS.f k t27.1 t27.2 t6.1 t6.2).bind fun t28 => cond (!t28) (ret false) ((laws_heldByteS.f k t22.2.1 t22.2.2 1).bind fun t29 => cond (decide (t29 < 0)) (ret false) (cond (!(decide (t29 = t22.1))) (ret false) (ret true))))))))))))))
def laws_FnExactBlame.f : Nat → Bool → (List T) → Int → Int → Bool → (List Int) → Bool → (List Int) → Bool → (List T) → Int → Int → Bool → (List Int) → Bool → (List Int) → Bool → (List T) → Option Bool
  | 0, _, _, _, _, _, _, _, _, _, _, _, _, _, _, _, _, _, _ => none
  | k + 1, a0_0z, a0_0, a1_0, a1_1, a1_2z, a1_2, a1_3z, a1_3, a1_4z, a1_4, a2_0, a2_1, a2_2z, a2_2, a2_3z, a2_3, a2_4z, a2_4 => laws_FnExactBlame.b some k a0_0z a0_0 a1_0 a1_1 a1_2z a1_2 a1_3z a1_3 a1_4z a1_4 a2_0 a2_1 a2_2z a2_2 a2_3z a2_3 a2_4z a2_4
def laws_FnExactBlame.enc (r : Bool) : Res := ⟨[.vals false [((.bool r), true)]], []⟩
def laws_FnExactBlame.ans (k : Nat) : List Arg → Ans
  | [.v (.agg [(.sl 191 a0_0z a0_0)]), .v (.agg [(.int .i64 a1_0), (.int .i64 a1_1), (.nums 5 .u8 a1_2z a1_2), (.nums 5 .u8 a1_3z a1_3), (.sl 22 a1_4z a1_4)]), .v (.agg [(.int .i64 a2_0), (.int .i64 a2_1), (.nums 5 .u8 a2_2z a2_2), (.nums 5 .u8 a2_3z a2_3), (.sl 22 a2_4z a2_4)])] => ⟨laws_FnExactBlame.f k a0_0z a0_0 a1_0 a1_1 a1_2z a1_2 a1_3z a1_3 a1_4z a1_4 a2_0 a2_1 a2_2z a2_2 a2_3z a2_3 a2_4z a2_4, laws_FnExactBlame.enc⟩
  | _ => Ans.no
def laws_FnExactBlame.Cs (k : Nat) : CallSem := tab [(24, laws_szTable.ans k), (75, laws_szQc.ans k), (27, laws_toTable.ans k), (77, laws_toQc.ans k), (76, spec_Blame.ans k), (70, impl_Blame.ans k), (32, laws_eqByteS.ans k), (31, laws_eqTable.ans k), (78, laws_eqQc.ans k), (33, laws_markTable.ans k), (34, laws_markByteS.ans k), (79, laws_markQc.ans k), (80, laws_heldByteS.ans k)]
def laws_FnExactBlame.cuts : List (Nat × Keep) := []
theorem laws_FnExactBlame.s (k : Nat) (a0_0z : Bool) (a0_0 : List T) (a1_0 : Int) (a1_1 : Int) (a1_2z : Bool) (a1_2 : List Int) (a1_3z : Bool) (a1_3 : List Int) (a1_4z : Bool) (a1_4 : List T) (a2_0 : Int) (a2_1 : Int) (a2_2z : Bool) (a2_2 : List Int) (a2_3z : Bool) (a2_3 : List Int) (a2_4z : Bool) (a2_4 : List T) : answer Try.prog laws_FnExactBlame.Cs 100000 laws_FnExactBlame.cuts [] Try.f11 (k + 1) [.v (.agg [(.sl 191 a0_0z a0_0)]), .v (.agg [(.int .i64 a1_0), (.int .i64 a1_1), (.nums 5 .u8 a1_2z a1_2), (.nums 5 .u8 a1_3z a1_3), (.sl 22 a1_4z a1_4)]), .v (.agg [(.int .i64 a2_0), (.int .i64 a2_1), (.nums 5 .u8 a2_2z a2_2), (.nums 5 .u8 a2_3z a2_3), (.sl 22 a2_4z a2_4)])] = laws_FnExactBlame.b (fun r => some (laws_FnExactBlame.enc r)) k a0_0z a0_0 a1_0 a1_1 a1_2z a1_2 a1_3z a1_3 a1_4z a1_4 a2_0 a2_1 a2_2z a2_2 a2_3z a2_3 a2_4z a2_4 := by kernel_rfl
theorem laws_FnExactBlame.b_nat {R R' : Type} (e : R → R') (ret : Bool → Option R) (k : Nat) (a0_0z : Bool) (a0_0 : List T) (a1_0 : Int) (a1_1 : Int) (a1_2z : Bool) (a1_2 : List Int) (a1_3z : Bool) (a1_3 : List Int) (a1_4z : Bool) (a1_4 : List T) (a2_0 : Int) (a2_1 : Int) (a2_2z : Bool) (a2_2 : List Int) (a2_3z : Bool) (a2_3 : List Int) (a2_4z : Bool) (a2_4 : List T) : laws_FnExactBlame.b (fun r => (ret r).map e) k a0_0z a0_0 a1_0 a1_1 a1_2z a1_2 a1_3z a1_3 a1_4z a1_4 a2_0 a2_1 a2_2z a2_2 a2_3z a2_3 a2_4z a2_4 = (laws_FnExactBlame.b ret k a0_0z a0_0 a1_0 a1_1 a1_2z a1_2 a1_3z a1_3 a1_4z a1_4 a2_0 a2_1 a2_2z a2_2 a2_3z a2_3 a2_4z a2_4).map e := by
  unfold laws_FnExactBlame.b
  repeat' first | with_reducible refine nat_cond ?_ ?_ | with_reducible refine nat_bind fun _ => ?_ | rfl
theorem laws_FnExactBlame.eq (k : Nat) (a0_0z : Bool) (a0_0 : List T) (a1_0 : Int) (a1_1 : Int) (a1_2z : Bool) (a1_2 : List Int) (a1_3z : Bool) (a1_3 : List Int) (a1_4z : Bool) (a1_4 : List T) (a2_0 : Int) (a2_1 : Int) (a2_2z : Bool) (a2_2 : List Int) (a2_3z : Bool) (a2_3 : List Int) (a2_4z : Bool) (a2_4 : List T) : answer Try.prog laws_FnExactBlame.Cs 100000 laws_FnExactBlame.cuts [] Try.f11 (k + 1) [.v (.agg [(.sl 191 a0_0z a0_0)]), .v (.agg [(.int .i64 a1_0), (.int .i64 a1_1), (.nums 5 .u8 a1_2z a1_2), (.nums 5 .u8 a1_3z a1_3), (.sl 22 a1_4z a1_4)]), .v (.agg [(.int .i64 a2_0), (.int .i64 a2_1), (.nums 5 .u8 a2_2z a2_2), (.nums 5 .u8 a2_3z a2_3), (.sl 22 a2_4z a2_4)])] = (laws_FnExactBlame.f (k + 1) a0_0z a0_0 a1_0 a1_1 a1_2z a1_2 a1_3z a1_3 a1_4z a1_4 a2_0 a2_1 a2_2z a2_2 a2_3z a2_3 a2_4z a2_4).map laws_FnExactBlame.enc := by
  refine (laws_FnExactBlame.s k a0_0z a0_0 a1_0 a1_1 a1_2z a1_2 a1_3z a1_3 a1_4z a1_4 a2_0 a2_1 a2_2z a2_2 a2_3z a2_3 a2_4z a2_4).trans (Eq.trans ?_ (laws_FnExactBlame.b_nat laws_FnExactBlame.enc some k a0_0z a0_0 a1_0 a1_1 a1_2z a1_2 a1_3z a1_3 a1_4z a1_4 a2_0 a2_1 a2_2z a2_2 a2_3z a2_3 a2_4z a2_4))
  simp only [Option.map_some]
theorem laws_FnExactBlame.sound (k : Nat) : SoundF Try.prog 11 (fun a => (laws_FnExactBlame.ans k a).val) := by
  refine sound_plain (fun args res h => ?_) (fun t n => rfl)
  unfold laws_FnExactBlame.ans at h
  dsimp only at h
  split at h
  · cases k with
    | zero => cases h
    | succ k =>
      unfold Ans.val at h
      rw [← laws_FnExactBlame.eq] at h
      exact answer_sound mixed Try.func11 _ _ _ (k + 1) (fun j _ => tab_sound (tab_cons (laws_szTable.sound j) (tab_cons (laws_szQc.sound j) (tab_cons (laws_toTable.sound j) (tab_cons (laws_toQc.sound j) (tab_cons (spec_Blame.sound j) (tab_cons (impl_Blame.sound j) (tab_cons (laws_eqByteS.sound j) (tab_cons (laws_eqTable.sound j) (tab_cons (laws_eqQc.sound j) (tab_cons (laws_markTable.sound j) (tab_cons (laws_markByteS.sound j) (tab_cons (laws_markQc.sound j) (tab_cons (laws_heldByteS.sound j) (tab_nil))))))))))))))) _ _ h
  · exact (Ans.no_val h).elim
end Go.Proofs.YtlfliciohaebfaaG
