/- What the functions compute, printed by a program of this repo; each is shown to be what the machine of values answers. No condition. -/
import Derived.Test.YtadnejogdohfkaaProg
import Derived.KernelRfl
import Derived.Test.YtadnejogdohfkaaGFnExactSignVoteb
namespace Go.Proofs.YtadnejogdohfkaaG
open Go Go.Proofs.YtadnejogdohfkaaRv Go.Proofs
set_option linter.unusedVariables false
set_option linter.unusedSimpArgs false
/-! loop.example/g00790/impl.ShaBlock -/
def impl_ShaBlock.b {R : Type} (ret : Bool × List Int → Option R) (j0 : Bool → (List Int) → Bool → (List Int) → Bool → (List Int) → Int → Int → Option R) (j1 : Bool → (List Int) → Bool → (List Int) → Bool → (List Int) → Int → (List Int) → Option R) (j2 : Bool → (List Int) → Bool → (List Int) → Int → (List Int) → Option R) (j3 : Bool → (List Int) → Bool → (List Int) → Int → (List Int) → (List Int) → Option R) (j4 : Bool → (List Int) → (List Int) → Int → (List Int) → Option R) (k : Nat) (a0z : Bool) (a0 : List Int) (a1z : Bool) (a1 : List Int) : Option R :=
  cond (!(decide (((a0).length : Int) = 8))) (ret (true, ([] : List Int))) (cond (!(decide (((a1).length : Int) = 64))) (ret (true, ([] : List Int))) (j0 a0z a0 a1z a1 a0z a0 ((a0).length : Int) 0))
def impl_ShaBlock.l0b {R : Type} (ret : Bool × List Int → Option R) (j0 : Bool → (List Int) → Bool → (List Int) → Bool → (List Int) → Int → Int → Option R) (j1 : Bool → (List Int) → Bool → (List Int) → Bool → (List Int) → Int → (List Int) → Option R) (j2 : Bool → (List Int) → Bool → (List Int) → Int → (List Int) → Option R) (j3 : Bool → (List Int) → Bool → (List Int) → Int → (List Int) → (List Int) → Option R) (j4 : Bool → (List Int) → (List Int) → Int → (List Int) → Option R) (k : Nat) (x0z : Bool) (x0 : List Int) (x1z : Bool) (x1 : List Int) (x33z : Bool) (x33 : List Int) (x34 : Int) (x35 : Int) : Option R :=
  cond (decide (x35 < x34)) (cond (decide ((0 : Int) ≤ x35)) (cond (decide (x35 < ((x33).length : Int))) ((impl_isWord.f k (rdI x33 x35)).bind fun t0 => cond (!t0) (ret (true, ([] : List Int))) (j0 x0z x0 x1z x1 x33z x33 x34 (RowKit.wrap64 (x35 + 1)))) (none)) (none)) ((impl_rounds.f k).bind fun t0 => j1 x0z x0 x1z x1 t0.1 t0.2 0 ([0, 0, 0, 0, 0, 0, 0, 0, 0, 0, 0, 0, 0, 0, 0, 0, 0, 0, 0, 0, 0, 0, 0, 0, 0, 0, 0, 0, 0, 0, 0, 0, 0, 0, 0, 0, 0, 0, 0, 0, 0, 0, 0, 0, 0, 0, 0, 0, 0, 0, 0, 0, 0, 0, 0, 0, 0, 0, 0, 0, 0, 0, 0, 0] : List Int))
def impl_ShaBlock.l1b {R : Type} (ret : Bool × List Int → Option R) (j0 : Bool → (List Int) → Bool → (List Int) → Bool → (List Int) → Int → Int → Option R) (j1 : Bool → (List Int) → Bool → (List Int) → Bool → (List Int) → Int → (List Int) → Option R) (j2 : Bool → (List Int) → Bool → (List Int) → Int → (List Int) → Option R) (j3 : Bool → (List Int) → Bool → (List Int) → Int → (List Int) → (List Int) → Option R) (j4 : Bool → (List Int) → (List Int) → Int → (List Int) → Option R) (k : Nat) (x0z : Bool) (x0 : List Int) (x1z : Bool) (x1 : List Int) (x8z : Bool) (x8 : List Int) (x46 : Int) (c7 : List Int) : Option R :=
  cond (decide (x46 < 16)) (cond (decide ((0 : Int) ≤ (RowKit.wrap64 ((4 : Int) * x46)))) (cond (decide ((RowKit.wrap64 ((4 : Int) * x46)) < ((x1).length : Int))) (cond (decide ((0 : Int) ≤ (RowKit.wrap64 ((RowKit.wrap64 ((4 : Int) * x46)) + 1)))) (cond (decide ((RowKit.wrap64 ((RowKit.wrap64 ((4 : Int) * x46)) + 1)) < ((x1).length : Int))) (cond (decide ((0 : Int) ≤ (RowKit.wrap64 ((RowKit.wrap64 ((4 : Int) * x46)) + 2)))) (cond (decide ((RowKit.wrap64 ((RowKit.wrap64 ((4 : Int) * x46)) + 2)) < ((x1).length : Int))) (cond (decide ((0 : Int) ≤ (RowKit.wrap64 ((RowKit.wrap64 ((4 : Int) * x46)) + 3)))) (cond (decide ((RowKit.wrap64 ((RowKit.wrap64 ((4 : Int) * x46)) + 3)) < ((x1).length : Int))) (cond (decide ((0 : Int) ≤ x46)) (cond (decide (x46 < 64)) (j1 x0z x0 x1z x1 x8z x8 (RowKit.wrap64 (x46 + 1)) ((c7).set (x46).toNat (Go.bits .or .i64 (Go.bits .or .i64 (Go.bits .or .i64 (shlI .i64 (RowKit.wrap64 ((rdI x1 (RowKit.wrap64 ((4 : Int) * x46))))) 24) (shlI .i64 (RowKit.wrap64 ((rdI x1 (RowKit.wrap64 ((RowKit.wrap64 ((4 : Int) * x46)) + 1))))) 16)) (shlI .i64 (RowKit.wrap64 ((rdI x1 (RowKit.wrap64 ((RowKit.wrap64 ((4 : Int) * x46)) + 2))))) 8)) (RowKit.wrap64 ((rdI x1 (RowKit.wrap64 ((RowKit.wrap64 ((4 : Int) * x46)) + 3)))))))) (none)) (none)) (none)) (none)) (none)) (none)) (none)) (none)) (none)) (none)) (j2 x0z x0 x8z x8 16 c7)
def impl_ShaBlock.l2b {R : Type} (ret : Bool × List Int → Option R) (j0 : Bool → (List Int) → Bool → (List Int) → Bool → (List Int) → Int → Int → Option R) (j1 : Bool → (List Int) → Bool → (List Int) → Bool → (List Int) → Int → (List Int) → Option R) (j2 : Bool → (List Int) → Bool → (List Int) → Int → (List Int) → Option R) (j3 : Bool → (List Int) → Bool → (List Int) → Int → (List Int) → (List Int) → Option R) (j4 : Bool → (List Int) → (List Int) → Int → (List Int) → Option R) (k : Nat) (x0z : Bool) (x0 : List Int) (x8z : Bool) (x8 : List Int) (x11 : Int) (c7 : List Int) : Option R :=
  cond (decide (x11 < 64)) (cond (decide ((0 : Int) ≤ (RowKit.wrap64 (x11 - 15)))) (cond (decide ((RowKit.wrap64 (x11 - 15)) < 64)) (cond (decide ((0 : Int) ≤ (RowKit.wrap64 (x11 - 2)))) (cond (decide ((RowKit.wrap64 (x11 - 2)) < 64)) ((impl_TurnRight.f k (rdI c7 (RowKit.wrap64 (x11 - 15))) 7).bind fun t0 => (impl_TurnRight.f k (rdI c7 (RowKit.wrap64 (x11 - 15))) 18).bind fun t1 => (impl_TurnRight.f k (rdI c7 (RowKit.wrap64 (x11 - 2))) 17).bind fun t2 => (impl_TurnRight.f k (rdI c7 (RowKit.wrap64 (x11 - 2))) 19).bind fun t3 => cond (decide ((0 : Int) ≤ (RowKit.wrap64 (x11 - 16)))) (cond (decide ((RowKit.wrap64 (x11 - 16)) < 64)) (cond (decide ((0 : Int) ≤ (RowKit.wrap64 (x11 - 7)))) (cond (decide ((RowKit.wrap64 (x11 - 7)) < 64)) (cond (decide ((0 : Int) ≤ x11)) (cond (decide (x11 < 64)) (j2 x0z x0 x8z x8 (RowKit.wrap64 (x11 + 1)) ((c7).set (x11).toNat (Go.bits .and .i64 (RowKit.wrap64 ((RowKit.wrap64 ((RowKit.wrap64 ((rdI c7 (RowKit.wrap64 (x11 - 16))) + (Go.bits .xor .i64 (Go.bits .xor .i64 t0 t1) (shrI .i64 (rdI c7 (RowKit.wrap64 (x11 - 15))) 3)))) + (rdI c7 (RowKit.wrap64 (x11 - 7))))) + (Go.bits .xor .i64 (Go.bits .xor .i64 t2 t3) (shrI .i64 (rdI c7 (RowKit.wrap64 (x11 - 2))) 10)))) 4294967295))) (none)) (none)) (none)) (none)) (none)) (none)) (none)) (none)) (none)) (none)) (j3 x0z x0 x8z x8 0 c7 ((x0).take 8 ++ (([0, 0, 0, 0, 0, 0, 0, 0] : List Int)).drop (x0).length))
def impl_ShaBlock.l3b {R : Type} (ret : Bool × List Int → Option R) (j0 : Bool → (List Int) → Bool → (List Int) → Bool → (List Int) → Int → Int → Option R) (j1 : Bool → (List Int) → Bool → (List Int) → Bool → (List Int) → Int → (List Int) → Option R) (j2 : Bool → (List Int) → Bool → (List Int) → Int → (List Int) → Option R) (j3 : Bool → (List Int) → Bool → (List Int) → Int → (List Int) → (List Int) → Option R) (j4 : Bool → (List Int) → (List Int) → Int → (List Int) → Option R) (k : Nat) (x0z : Bool) (x0 : List Int) (x8z : Bool) (x8 : List Int) (x132 : Int) (c7 : List Int) (c9 : List Int) : Option R :=
  cond (decide (x132 < 64)) ((impl_TurnRight.f k (rdI c9 4) 6).bind fun t0 => (impl_TurnRight.f k (rdI c9 4) 11).bind fun t1 => (impl_TurnRight.f k (rdI c9 4) 25).bind fun t2 => cond (decide ((0 : Int) ≤ x132)) (cond (decide (x132 < ((x8).length : Int))) (cond (decide ((0 : Int) ≤ x132)) (cond (decide (x132 < 64)) ((impl_TurnRight.f k (rdI c9 0) 2).bind fun t3 => (impl_TurnRight.f k (rdI c9 0) 13).bind fun t4 => (impl_TurnRight.f k (rdI c9 0) 22).bind fun t5 => j3 x0z x0 x8z x8 (RowKit.wrap64 (x132 + 1)) c7 ([(Go.bits .and .i64 (RowKit.wrap64 ((RowKit.wrap64 ((RowKit.wrap64 ((RowKit.wrap64 ((RowKit.wrap64 ((rdI c9 7) + (Go.bits .xor .i64 (Go.bits .xor .i64 t0 t1) t2))) + (Go.bits .or .i64 (Go.bits .and .i64 (rdI c9 4) (rdI c9 5)) (Go.bits .and .i64 (Go.bits .xor .i64 (rdI c9 4) 4294967295) (rdI c9 6))))) + (rdI x8 x132))) + (rdI c7 x132))) + (RowKit.wrap64 ((Go.bits .xor .i64 (Go.bits .xor .i64 t3 t4) t5) + (Go.bits .or .i64 (Go.bits .or .i64 (Go.bits .and .i64 (rdI c9 0) (rdI c9 1)) (Go.bits .and .i64 (rdI c9 0) (rdI c9 2))) (Go.bits .and .i64 (rdI c9 1) (rdI c9 2))))))) 4294967295), (rdI c9 0), (rdI c9 1), (rdI c9 2), (Go.bits .and .i64 (RowKit.wrap64 ((rdI c9 3) + (RowKit.wrap64 ((RowKit.wrap64 ((RowKit.wrap64 ((RowKit.wrap64 ((rdI c9 7) + (Go.bits .xor .i64 (Go.bits .xor .i64 t0 t1) t2))) + (Go.bits .or .i64 (Go.bits .and .i64 (rdI c9 4) (rdI c9 5)) (Go.bits .and .i64 (Go.bits .xor .i64 (rdI c9 4) 4294967295) (rdI c9 6))))) + (rdI x8 x132))) + (rdI c7 x132))))) 4294967295), (rdI c9 4), (rdI c9 5), (rdI c9 6)] : List Int)) (none)) (none)) (none)) (none)) (j4 x0z x0 ([] : List Int) 0 c9)
def impl_ShaBlock.l4b {R : Type} (ret : Bool × List Int → Option R) (j0 : Bool → (List Int) → Bool → (List Int) → Bool → (List Int) → Int → Int → Option R) (j1 : Bool → (List Int) → Bool → (List Int) → Bool → (List Int) → Int → (List Int) → Option R) (j2 : Bool → (List Int) → Bool → (List Int) → Int → (List Int) → Option R) (j3 : Bool → (List Int) → Bool → (List Int) → Int → (List Int) → (List Int) → Option R) (j4 : Bool → (List Int) → (List Int) → Int → (List Int) → Option R) (k : Nat) (x0z : Bool) (x0 : List Int) (x23 : List Int) (x218 : Int) (c9 : List Int) : Option R :=
  cond (decide (x218 < 8)) (cond (decide ((0 : Int) ≤ x218)) (cond (decide (x218 < ((x0).length : Int))) (cond (decide ((0 : Int) ≤ x218)) (cond (decide (x218 < 8)) (cond (decide ((x23).length + 1 < 17592186044416)) (j4 x0z x0 (x23 ++ ([(Go.bits .and .i64 (RowKit.wrap64 ((rdI x0 x218) + (rdI c9 x218))) 4294967295)] : List Int)) (RowKit.wrap64 (x218 + 1)) c9) (none)) (none)) (none)) (none)) (none)) (ret (false, x23))
mutual
def impl_ShaBlock.l0 : Nat → Bool → (List Int) → Bool → (List Int) → Bool → (List Int) → Int → Int → Option (Bool × List Int)
  | 0, _, _, _, _, _, _, _, _ => none
  | k + 1, x0z, x0, x1z, x1, x33z, x33, x34, x35 => impl_ShaBlock.l0b some (impl_ShaBlock.l0 k) (impl_ShaBlock.l1 k) (impl_ShaBlock.l2 k) (impl_ShaBlock.l3 k) (impl_ShaBlock.l4 k) k x0z x0 x1z x1 x33z x33 x34 x35
def impl_ShaBlock.l1 : Nat → Bool → (List Int) → Bool → (List Int) → Bool → (List Int) → Int → (List Int) → Option (Bool × List Int)
  | 0, _, _, _, _, _, _, _, _ => none
  | k + 1, x0z, x0, x1z, x1, x8z, x8, x46, c7 => impl_ShaBlock.l1b some (impl_ShaBlock.l0 k) (impl_ShaBlock.l1 k) (impl_ShaBlock.l2 k) (impl_ShaBlock.l3 k) (impl_ShaBlock.l4 k) k x0z x0 x1z x1 x8z x8 x46 c7
def impl_ShaBlock.l2 : Nat → Bool → (List Int) → Bool → (List Int) → Int → (List Int) → Option (Bool × List Int)
  | 0, _, _, _, _, _, _ => none
  | k + 1, x0z, x0, x8z, x8, x11, c7 => impl_ShaBlock.l2b some (impl_ShaBlock.l0 k) (impl_ShaBlock.l1 k) (impl_ShaBlock.l2 k) (impl_ShaBlock.l3 k) (impl_ShaBlock.l4 k) k x0z x0 x8z x8 x11 c7
def impl_ShaBlock.l3 : Nat → Bool → (List Int) → Bool → (List Int) → Int → (List Int) → (List Int) → Option (Bool × List Int)
  | 0, _, _, _, _, _, _, _ => none
  | k + 1, x0z, x0, x8z, x8, x132, c7, c9 => impl_ShaBlock.l3b some (impl_ShaBlock.l0 k) (impl_ShaBlock.l1 k) (impl_ShaBlock.l2 k) (impl_ShaBlock.l3 k) (impl_ShaBlock.l4 k) k x0z x0 x8z x8 x132 c7 c9
def impl_ShaBlock.l4 : Nat → Bool → (List Int) → (List Int) → Int → (List Int) → Option (Bool × List Int)
  | 0, _, _, _, _, _ => none
  | k + 1, x0z, x0, x23, x218, c9 => impl_ShaBlock.l4b some (impl_ShaBlock.l0 k) (impl_ShaBlock.l1 k) (impl_ShaBlock.l2 k) (impl_ShaBlock.l3 k) (impl_ShaBlock.l4 k) k x0z x0 x23 x218 c9
end
def impl_ShaBlock.f : Nat → Bool → (List Int) → Bool → (List Int) → Option (Bool × List Int)
  | 0, _, _, _, _ => none
  | k + 1, a0z, a0, a1z, a1 => impl_ShaBlock.b some (impl_ShaBlock.l0 k) (impl_ShaBlock.l1 k) (impl_ShaBlock.l2 k) (impl_ShaBlock.l3 k) (impl_ShaBlock.l4 k) k a0z a0 a1z a1
def impl_ShaBlock.enc (r : Bool × List Int) : Res := ⟨[.vals false [((.nums 3 .i64 r.1 r.2), true)]], []⟩
def impl_ShaBlock.ans (k : Nat) : List Arg → Ans
  | [.v (.nums 3 .i64 a0z a0), .v (.nums 5 .u8 a1z a1)] => ⟨impl_ShaBlock.f k a0z a0 a1z a1, impl_ShaBlock.enc⟩
  | _ => Ans.no
def impl_ShaBlock.Cs (k : Nat) : CallSem := tab [(218, impl_isWord.ans k), (219, impl_rounds.ans k), (220, impl_TurnRight.ans k)]
def impl_ShaBlock.cuts : List (Nat × Keep) := [(58, ⟨[(0, some []), (1, some []), (33, some []), (34, some []), (35, some [])], []⟩), (250, ⟨[(0, some []), (1, some []), (7, some []), (8, none), (9, some []), (46, some [])], []⟩), (506, ⟨[(0, some []), (7, some []), (8, none), (9, some []), (11, some [])], []⟩), (2042, ⟨[(0, some []), (7, some []), (8, none), (9, some []), (132, some [])], []⟩), (8186, ⟨[(0, some []), (9, some []), (23, none), (218, some [])], []⟩)]
noncomputable def impl_ShaBlock.K0 : List Fr := framesAt [true, true, false, true, false] (bodyOf Try.f200 impl_ShaBlock.cuts) []
def impl_ShaBlock.N0 (x0z : Bool) (x0 : List Int) (x1z : Bool) (x1 : List Int) (x33z : Bool) (x33 : List Int) (x34 : Int) (x35 : Int) : St := stOf 235 235 2 [(0, .val ⟨(.nums 3 .i64 x0z x0), [], false, none⟩), (1, .val ⟨(.nums 5 .u8 x1z x1), [], false, none⟩), (33, .val ⟨(.nums 3 .i64 x33z x33), [], false, none⟩), (34, .val (V.s (.int .i64 x34))), (35, .val (V.s (.int .i64 x35)))] []
noncomputable def impl_ShaBlock.K1 : List Fr := framesAt [true, true, true, true, false, true, false] (bodyOf Try.f200 impl_ShaBlock.cuts) []
def impl_ShaBlock.N1 (x0z : Bool) (x0 : List Int) (x1z : Bool) (x1 : List Int) (x8z : Bool) (x8 : List Int) (x46 : Int) (c7 : List Int) : St := stOf 235 235 2 [(0, .val ⟨(.nums 3 .i64 x0z x0), [], false, none⟩), (1, .val ⟨(.nums 5 .u8 x1z x1), [], false, none⟩), (7, .bp 7 0), (8, .val ⟨(.nums 3 .i64 x8z x8), [.l 8 0], true, some (.l 8 0)⟩), (9, .bp 9 0), (46, .val (V.s (.int .i64 x46)))] [(7, .arr .i64 64 c7), (9, .arr .i64 8 ([0, 0, 0, 0, 0, 0, 0, 0] : List Int))]
noncomputable def impl_ShaBlock.K2 : List Fr := framesAt [true, true, true, true, true, false, true, false] (bodyOf Try.f200 impl_ShaBlock.cuts) []
def impl_ShaBlock.N2 (x0z : Bool) (x0 : List Int) (x8z : Bool) (x8 : List Int) (x11 : Int) (c7 : List Int) : St := stOf 235 235 2 [(0, .val ⟨(.nums 3 .i64 x0z x0), [], false, none⟩), (7, .bp 7 0), (8, .val ⟨(.nums 3 .i64 x8z x8), [.l 8 0], true, some (.l 8 0)⟩), (9, .bp 9 0), (11, .val (V.s (.int .i64 x11)))] [(7, .arr .i64 64 c7), (9, .arr .i64 8 ([0, 0, 0, 0, 0, 0, 0, 0] : List Int))]
noncomputable def impl_ShaBlock.K3 : List Fr := framesAt [true, true, true, true, true, true, true, false, true, false] (bodyOf Try.f200 impl_ShaBlock.cuts) []
def impl_ShaBlock.N3 (x0z : Bool) (x0 : List Int) (x8z : Bool) (x8 : List Int) (x132 : Int) (c7 : List Int) (c9 : List Int) : St := stOf 235 235 2 [(0, .val ⟨(.nums 3 .i64 x0z x0), [], false, none⟩), (7, .bp 7 0), (8, .val ⟨(.nums 3 .i64 x8z x8), [.l 8 0], true, some (.l 8 0)⟩), (9, .bp 9 0), (132, .val (V.s (.int .i64 x132)))] [(7, .arr .i64 64 c7), (9, .arr .i64 8 c9)]
noncomputable def impl_ShaBlock.K4 : List Fr := framesAt [true, true, true, true, true, true, true, true, true, false, true, false] (bodyOf Try.f200 impl_ShaBlock.cuts) []
def impl_ShaBlock.N4 (x0z : Bool) (x0 : List Int) (x23 : List Int) (x218 : Int) (c9 : List Int) : St := stOf 235 235 2 [(0, .val ⟨(.nums 3 .i64 x0z x0), [], false, none⟩), (9, .bp 9 0), (23, .val ⟨(.nums 3 .i64 false x23), [.l 23 0], true, some (.l 23 0)⟩), (218, .val (V.s (.int .i64 x218)))] [(9, .arr .i64 8 c9)]
theorem impl_ShaBlock.s (k : Nat) (a0z : Bool) (a0 : List Int) (a1z : Bool) (a1 : List Int) : answer Try.prog impl_ShaBlock.Cs 100000 impl_ShaBlock.cuts [] Try.f200 (k + 1) [.v (.nums 3 .i64 a0z a0), .v (.nums 5 .u8 a1z a1)] = impl_ShaBlock.b (fun r => some (impl_ShaBlock.enc r)) (fun x0z x0 x1z x1 x33z x33 x34 x35 => rounds Try.prog impl_ShaBlock.Cs (finish Try.prog [] Try.f200 [.v (.nums 3 .i64 a0z a0), .v (.nums 5 .u8 a1z a1)]) 100000 k impl_ShaBlock.K0 (impl_ShaBlock.N0 x0z x0 x1z x1 x33z x33 x34 x35)) (fun x0z x0 x1z x1 x8z x8 x46 c7 => rounds Try.prog impl_ShaBlock.Cs (finish Try.prog [] Try.f200 [.v (.nums 3 .i64 a0z a0), .v (.nums 5 .u8 a1z a1)]) 100000 k impl_ShaBlock.K1 (impl_ShaBlock.N1 x0z x0 x1z x1 x8z x8 x46 c7)) (fun x0z x0 x8z x8 x11 c7 => rounds Try.prog impl_ShaBlock.Cs (finish Try.prog [] Try.f200 [.v (.nums 3 .i64 a0z a0), .v (.nums 5 .u8 a1z a1)]) 100000 k impl_ShaBlock.K2 (impl_ShaBlock.N2 x0z x0 x8z x8 x11 c7)) (fun x0z x0 x8z x8 x132 c7 c9 => rounds Try.prog impl_ShaBlock.Cs (finish Try.prog [] Try.f200 [.v (.nums 3 .i64 a0z a0), .v (.nums 5 .u8 a1z a1)]) 100000 k impl_ShaBlock.K3 (impl_ShaBlock.N3 x0z x0 x8z x8 x132 c7 c9)) (fun x0z x0 x23 x218 c9 => rounds Try.prog impl_ShaBlock.Cs (finish Try.prog [] Try.f200 [.v (.nums 3 .i64 a0z a0), .v (.nums 5 .u8 a1z a1)]) 100000 k impl_ShaBlock.K4 (impl_ShaBlock.N4 x0z x0 x23 x218 c9)) k a0z a0 a1z a1 := by kernel_rfl
theorem impl_ShaBlock.s0 (k : Nat) (G : List Fr → St → Option Res) (a0z : Bool) (a0 : List Int) (a1z : Bool) (a1 : List Int) (yx0z : Bool) (yx0 : List Int) (yx1z : Bool) (yx1 : List Int) (yx33z : Bool) (yx33 : List Int) (yx34 : Int) (yx35 : Int) : resume Try.prog (impl_ShaBlock.Cs k) G (finish Try.prog [] Try.f200 [.v (.nums 3 .i64 a0z a0), .v (.nums 5 .u8 a1z a1)]) 100000 impl_ShaBlock.K0 (impl_ShaBlock.N0 yx0z yx0 yx1z yx1 yx33z yx33 yx34 yx35) = impl_ShaBlock.l0b (fun r => some (impl_ShaBlock.enc r)) (fun x0z x0 x1z x1 x33z x33 x34 x35 => G impl_ShaBlock.K0 (impl_ShaBlock.N0 x0z x0 x1z x1 x33z x33 x34 x35)) (fun x0z x0 x1z x1 x8z x8 x46 c7 => G impl_ShaBlock.K1 (impl_ShaBlock.N1 x0z x0 x1z x1 x8z x8 x46 c7)) (fun x0z x0 x8z x8 x11 c7 => G impl_ShaBlock.K2 (impl_ShaBlock.N2 x0z x0 x8z x8 x11 c7)) (fun x0z x0 x8z x8 x132 c7 c9 => G impl_ShaBlock.K3 (impl_ShaBlock.N3 x0z x0 x8z x8 x132 c7 c9)) (fun x0z x0 x23 x218 c9 => G impl_ShaBlock.K4 (impl_ShaBlock.N4 x0z x0 x23 x218 c9)) k yx0z yx0 yx1z yx1 yx33z yx33 yx34 yx35 := by kernel_rfl
theorem impl_ShaBlock.s1 (k : Nat) (G : List Fr → St → Option Res) (a0z : Bool) (a0 : List Int) (a1z : Bool) (a1 : List Int) (yx0z : Bool) (yx0 : List Int) (yx1z : Bool) (yx1 : List Int) (yx8z : Bool) (yx8 : List Int) (yx46 : Int) (yc7 : List Int) : resume Try.prog (impl_ShaBlock.Cs k) G (finish Try.prog [] Try.f200 [.v (.nums 3 .i64 a0z a0), .v (.nums 5 .u8 a1z a1)]) 100000 impl_ShaBlock.K1 (impl_ShaBlock.N1 yx0z yx0 yx1z yx1 yx8z yx8 yx46 yc7) = impl_ShaBlock.l1b (fun r => some (impl_ShaBlock.enc r)) (fun x0z x0 x1z x1 x33z x33 x34 x35 => G impl_ShaBlock.K0 (impl_ShaBlock.N0 x0z x0 x1z x1 x33z x33 x34 x35)) (fun x0z x0 x1z x1 x8z x8 x46 c7 => G impl_ShaBlock.K1 (impl_ShaBlock.N1 x0z x0 x1z x1 x8z x8 x46 c7)) (fun x0z x0 x8z x8 x11 c7 => G impl_ShaBlock.K2 (impl_ShaBlock.N2 x0z x0 x8z x8 x11 c7)) (fun x0z x0 x8z x8 x132 c7 c9 => G impl_ShaBlock.K3 (impl_ShaBlock.N3 x0z x0 x8z x8 x132 c7 c9)) (fun x0z x0 x23 x218 c9 => G impl_ShaBlock.K4 (impl_ShaBlock.N4 x0z x0 x23 x218 c9)) k yx0z yx0 yx1z yx1 yx8z yx8 yx46 yc7 := by kernel_rfl
theorem impl_ShaBlock.s2 (k : Nat) (G : List Fr → St → Option Res) (a0z : Bool) (a0 : List Int) (a1z : Bool) (a1 : List Int) (yx0z : Bool) (yx0 : List Int) (yx8z : Bool) (yx8 : List Int) (yx11 : Int) (yc7 : List Int) : resume Try.prog (impl_ShaBlock.Cs k) G (finish Try.prog [] Try.f200 [.v (.nums 3 .i64 a0z a0), .v (.nums 5 .u8 a1z a1)]) 100000 impl_ShaBlock.K2 (impl_ShaBlock.N2 yx0z yx0 yx8z yx8 yx11 yc7) = impl_ShaBlock.l2b (fun r => some (impl_ShaBlock.enc r)) (fun x0z x0 x1z x1 x33z x33 x34 x35 => G impl_ShaBlock.K0 (impl_ShaBlock.N0 x0z x0 x1z x1 x33z x33 x34 x35)) (fun x0z x0 x1z x1 x8z x8 x46 c7 => G impl_ShaBlock.K1 (impl_ShaBlock.N1 x0z x0 x1z x1 x8z x8 x46 c7)) (fun x0z x0 x8z x8 x11 c7 => G impl_ShaBlock.K2 (impl_ShaBlock.N2 x0z x0 x8z x8 x11 c7)) (fun x0z x0 x8z x8 x132 c7 c9 => G impl_ShaBlock.K3 (impl_ShaBlock.N3 x0z x0 x8z x8 x132 c7 c9)) (fun x0z x0 x23 x218 c9 => G impl_ShaBlock.K4 (impl_ShaBlock.N4 x0z x0 x23 x218 c9)) k yx0z yx0 yx8z yx8 yx11 yc7 := by kernel_rfl
theorem impl_ShaBlock.s3 (k : Nat) (G : List Fr → St → Option Res) (a0z : Bool) (a0 : List Int) (a1z : Bool) (a1 : List Int) (yx0z : Bool) (yx0 : List Int) (yx8z : Bool) (yx8 : List Int) (yx132 : Int) (yc7 : List Int) (yc9 : List Int) : resume Try.prog (impl_ShaBlock.Cs k) G (finish Try.prog [] Try.f200 [.v (.nums 3 .i64 a0z a0), .v (.nums 5 .u8 a1z a1)]) 100000 impl_ShaBlock.K3 (impl_ShaBlock.N3 yx0z yx0 yx8z yx8 yx132 yc7 yc9) = impl_ShaBlock.l3b (fun r => some (impl_ShaBlock.enc r)) (fun x0z x0 x1z x1 x33z x33 x34 x35 => G impl_ShaBlock.K0 (impl_ShaBlock.N0 x0z x0 x1z x1 x33z x33 x34 x35)) (fun x0z x0 x1z x1 x8z x8 x46 c7 => G impl_ShaBlock.K1 (impl_ShaBlock.N1 x0z x0 x1z x1 x8z x8 x46 c7)) (fun x0z x0 x8z x8 x11 c7 => G impl_ShaBlock.K2 (impl_ShaBlock.N2 x0z x0 x8z x8 x11 c7)) (fun x0z x0 x8z x8 x132 c7 c9 => G impl_ShaBlock.K3 (impl_ShaBlock.N3 x0z x0 x8z x8 x132 c7 c9)) (fun x0z x0 x23 x218 c9 => G impl_ShaBlock.K4 (impl_ShaBlock.N4 x0z x0 x23 x218 c9)) k yx0z yx0 yx8z yx8 yx132 yc7 yc9 := by kernel_rfl
theorem impl_ShaBlock.s4 (k : Nat) (G : List Fr → St → Option Res) (a0z : Bool) (a0 : List Int) (a1z : Bool) (a1 : List Int) (yx0z : Bool) (yx0 : List Int) (yx23 : List Int) (yx218 : Int) (yc9 : List Int) : resume Try.prog (impl_ShaBlock.Cs k) G (finish Try.prog [] Try.f200 [.v (.nums 3 .i64 a0z a0), .v (.nums 5 .u8 a1z a1)]) 100000 impl_ShaBlock.K4 (impl_ShaBlock.N4 yx0z yx0 yx23 yx218 yc9) = impl_ShaBlock.l4b (fun r => some (impl_ShaBlock.enc r)) (fun x0z x0 x1z x1 x33z x33 x34 x35 => G impl_ShaBlock.K0 (impl_ShaBlock.N0 x0z x0 x1z x1 x33z x33 x34 x35)) (fun x0z x0 x1z x1 x8z x8 x46 c7 => G impl_ShaBlock.K1 (impl_ShaBlock.N1 x0z x0 x1z x1 x8z x8 x46 c7)) (fun x0z x0 x8z x8 x11 c7 => G impl_ShaBlock.K2 (impl_ShaBlock.N2 x0z x0 x8z x8 x11 c7)) (fun x0z x0 x8z x8 x132 c7 c9 => G impl_ShaBlock.K3 (impl_ShaBlock.N3 x0z x0 x8z x8 x132 c7 c9)) (fun x0z x0 x23 x218 c9 => G impl_ShaBlock.K4 (impl_ShaBlock.N4 x0z x0 x23 x218 c9)) k yx0z yx0 yx23 yx218 yc9 := by kernel_rfl
theorem impl_ShaBlock.b_nat {R R' : Type} (e : R → R') (ret : Bool × List Int → Option R) (j0 : Bool → (List Int) → Bool → (List Int) → Bool → (List Int) → Int → Int → Option R) (j1 : Bool → (List Int) → Bool → (List Int) → Bool → (List Int) → Int → (List Int) → Option R) (j2 : Bool → (List Int) → Bool → (List Int) → Int → (List Int) → Option R) (j3 : Bool → (List Int) → Bool → (List Int) → Int → (List Int) → (List Int) → Option R) (j4 : Bool → (List Int) → (List Int) → Int → (List Int) → Option R) (k : Nat) (a0z : Bool) (a0 : List Int) (a1z : Bool) (a1 : List Int) : impl_ShaBlock.b (fun r => (ret r).map e) (fun x0z x0 x1z x1 x33z x33 x34 x35 => (j0 x0z x0 x1z x1 x33z x33 x34 x35).map e) (fun x0z x0 x1z x1 x8z x8 x46 c7 => (j1 x0z x0 x1z x1 x8z x8 x46 c7).map e) (fun x0z x0 x8z x8 x11 c7 => (j2 x0z x0 x8z x8 x11 c7).map e) (fun x0z x0 x8z x8 x132 c7 c9 => (j3 x0z x0 x8z x8 x132 c7 c9).map e) (fun x0z x0 x23 x218 c9 => (j4 x0z x0 x23 x218 c9).map e) k a0z a0 a1z a1 = (impl_ShaBlock.b ret j0 j1 j2 j3 j4 k a0z a0 a1z a1).map e := by
  unfold impl_ShaBlock.b
  repeat' first | with_reducible refine nat_cond ?_ ?_ | with_reducible refine nat_bind fun _ => ?_ | rfl
theorem impl_ShaBlock.l0b_nat {R R' : Type} (e : R → R') (ret : Bool × List Int → Option R) (j0 : Bool → (List Int) → Bool → (List Int) → Bool → (List Int) → Int → Int → Option R) (j1 : Bool → (List Int) → Bool → (List Int) → Bool → (List Int) → Int → (List Int) → Option R) (j2 : Bool → (List Int) → Bool → (List Int) → Int → (List Int) → Option R) (j3 : Bool → (List Int) → Bool → (List Int) → Int → (List Int) → (List Int) → Option R) (j4 : Bool → (List Int) → (List Int) → Int → (List Int) → Option R) (k : Nat) (x0z : Bool) (x0 : List Int) (x1z : Bool) (x1 : List Int) (x33z : Bool) (x33 : List Int) (x34 : Int) (x35 : Int) : impl_ShaBlock.l0b (fun r => (ret r).map e) (fun x0z x0 x1z x1 x33z x33 x34 x35 => (j0 x0z x0 x1z x1 x33z x33 x34 x35).map e) (fun x0z x0 x1z x1 x8z x8 x46 c7 => (j1 x0z x0 x1z x1 x8z x8 x46 c7).map e) (fun x0z x0 x8z x8 x11 c7 => (j2 x0z x0 x8z x8 x11 c7).map e) (fun x0z x0 x8z x8 x132 c7 c9 => (j3 x0z x0 x8z x8 x132 c7 c9).map e) (fun x0z x0 x23 x218 c9 => (j4 x0z x0 x23 x218 c9).map e) k x0z x0 x1z x1 x33z x33 x34 x35 = (impl_ShaBlock.l0b ret j0 j1 j2 j3 j4 k x0z x0 x1z x1 x33z x33 x34 x35).map e := by
  unfold impl_ShaBlock.l0b
  repeat' first | with_reducible refine nat_cond ?_ ?_ | with_reducible refine nat_bind fun _ => ?_ | rfl
theorem impl_ShaBlock.l1b_nat {R R' : Type} (e : R → R') (ret : Bool × List Int → Option R) (j0 : Bool → (List Int) → Bool → (List Int) → Bool → (List Int) → Int → Int → Option R) (j1 : Bool → (List Int) → Bool → (List Int) → Bool → (List Int) → Int → (List Int) → Option R) (j2 : Bool → (List Int) → Bool → (List Int) → Int → (List Int) → Option R) (j3 : Bool → (List Int) → Bool → (List Int) → Int → (List Int) → (List Int) → Option R) (j4 : Bool → (List Int) → (List Int) → Int → (List Int) → Option R) (k : Nat) (x0z : Bool) (x0 : List Int) (x1z : Bool) (x1 : List Int) (x8z : Bool) (x8 : List Int) (x46 : Int) (c7 : List Int) : impl_ShaBlock.l1b (fun r => (ret r).map e) (fun x0z x0 x1z x1 x33z x33 x34 x35 => (j0 x0z x0 x1z x1 x33z x33 x34 x35).map e) (fun x0z x0 x1z x1 x8z x8 x46 c7 => (j1 x0z x0 x1z x1 x8z x8 x46 c7).map e) (fun x0z x0 x8z x8 x11 c7 => (j2 x0z x0 x8z x8 x11 c7).map e) (fun x0z x0 x8z x8 x132 c7 c9 => (j3 x0z x0 x8z x8 x132 c7 c9).map e) (fun x0z x0 x23 x218 c9 => (j4 x0z x0 x23 x218 c9).map e) k x0z x0 x1z x1 x8z x8 x46 c7 = (impl_ShaBlock.l1b ret j0 j1 j2 j3 j4 k x0z x0 x1z x1 x8z x8 x46 c7).map e := by
  unfold impl_ShaBlock.l1b
  repeat' first | with_reducible refine nat_cond ?_ ?_ | with_reducible refine nat_bind fun _ => ?_ | rfl
theorem impl_ShaBlock.l2b_nat {R R' : Type} (e : R → R') (ret : Bool × List Int → Option R) (j0 : Bool → (List Int) → Bool → (List Int) → Bool → (List Int) → Int → Int → Option R) (j1 : Bool → (List Int) → Bool → (List Int) → Bool → (List Int) → Int → (List Int) → Option R) (j2 : Bool → (List Int) → Bool → (List Int) → Int → (List Int) → Option R) (j3 : Bool → (List Int) → Bool → (List Int) → Int → (List Int) → (List Int) → Option R) (j4 : Bool → (List Int) → (List Int) → Int → (List Int) → Option R) (k : Nat) (x0z : Bool) (x0 : List Int) (x8z : Bool) (x8 : List Int) (x11 : Int) (c7 : List Int) : impl_ShaBlock.l2b (fun r => (ret r).map e) (fun x0z x0 x1z x1 x33z x33 x34 x35 => (j0 x0z x0 x1z x1 x33z x33 x34 x35).map e) (fun x0z x0 x1z x1 x8z x8 x46 c7 => (j1 x0z x0 x1z x1 x8z x8 x46 c7).map e) (fun x0z x0 x8z x8 x11 c7 => (j2 x0z x0 x8z x8 x11 c7).map e) (fun x0z x0 x8z x8 x132 c7 c9 => (j3 x0z x0 x8z x8 x132 c7 c9).map e) (fun x0z x0 x23 x218 c9 => (j4 x0z x0 x23 x218 c9).map e) k x0z x0 x8z x8 x11 c7 = (impl_ShaBlock.l2b ret j0 j1 j2 j3 j4 k x0z x0 x8z x8 x11 c7).map e := by
  unfold impl_ShaBlock.l2b
  repeat' first | with_reducible refine nat_cond ?_ ?_ | with_reducible refine nat_bind fun _ => ?_ | rfl
theorem impl_ShaBlock.l3b_nat {R R' : Type} (e : R → R') (ret : Bool × List Int → Option R) (j0 : Bool → (List Int) → Bool → (List Int) → Bool → (List Int) → Int → Int → Option R) (j1 : Bool → (List Int) → Bool → (List Int) → Bool → (List Int) → Int → (List Int) → Option R) (j2 : Bool → (List Int) → Bool → (List Int) → Int → (List Int) → Option R) (j3 : Bool → (List Int) → Bool → (List Int) → Int → (List Int) → (List Int) → Option R) (j4 : Bool → (List Int) → (List Int) → Int → (List Int) → Option R) (k : Nat) (x0z : Bool) (x0 : List Int) (x8z : Bool) (x8 : List Int) (x132 : Int) (c7 : List Int) (c9 : List Int) : impl_ShaBlock.l3b (fun r => (ret r).map e) (fun x0z x0 x1z x1 x33z x33 x34 x35 => (j0 x0z x0 x1z x1 x33z x33 x34 x35).map e) (fun x0z x0 x1z x1 x8z x8 x46 c7 => (j1 x0z x0 x1z x1 x8z x8 x46 c7).map e) (fun x0z x0 x8z x8 x11 c7 => (j2 x0z x0 x8z x8 x11 c7).map e) (fun x0z x0 x8z x8 x132 c7 c9 => (j3 x0z x0 x8z x8 x132 c7 c9).map e) (fun x0z x0 x23 x218 c9 => (j4 x0z x0 x23 x218 c9).map e) k x0z x0 x8z x8 x132 c7 c9 = (impl_ShaBlock.l3b ret j0 j1 j2 j3 j4 k x0z x0 x8z x8 x132 c7 c9).map e := by
  unfold impl_ShaBlock.l3b
  repeat' first | with_reducible refine nat_cond ?_ ?_ | with_reducible refine nat_bind fun _ => ?_ | rfl
theorem impl_ShaBlock.l4b_nat {R R' : Type} (e : R → R') (ret : Bool × List Int → Option R) (j0 : Bool → (List Int) → Bool → (List Int) → Bool → (List Int) → Int → Int → Option R) (j1 : Bool → (List Int) → Bool → (List Int) → Bool → (List Int) → Int → (List Int) → Option R) (j2 : Bool → (List Int) → Bool → (List Int) → Int → (List Int) → Option R) (j3 : Bool → (List Int) → Bool → (List Int) → Int → (List Int) → (List Int) → Option R) (j4 : Bool → (List Int) → (List Int) → Int → (List Int) → Option R) (k : Nat) (x0z : Bool) (x0 : List Int) (x23 : List Int) (x218 : Int) (c9 : List Int) : impl_ShaBlock.l4b (fun r => (ret r).map e) (fun x0z x0 x1z x1 x33z x33 x34 x35 => (j0 x0z x0 x1z x1 x33z x33 x34 x35).map e) (fun x0z x0 x1z x1 x8z x8 x46 c7 => (j1 x0z x0 x1z x1 x8z x8 x46 c7).map e) (fun x0z x0 x8z x8 x11 c7 => (j2 x0z x0 x8z x8 x11 c7).map e) (fun x0z x0 x8z x8 x132 c7 c9 => (j3 x0z x0 x8z x8 x132 c7 c9).map e) (fun x0z x0 x23 x218 c9 => (j4 x0z x0 x23 x218 c9).map e) k x0z x0 x23 x218 c9 = (impl_ShaBlock.l4b ret j0 j1 j2 j3 j4 k x0z x0 x23 x218 c9).map e := by
  unfold impl_ShaBlock.l4b
  repeat' first | with_reducible refine nat_cond ?_ ?_ | with_reducible refine nat_bind fun _ => ?_ | rfl
theorem impl_ShaBlock.rounds_eq (a0z : Bool) (a0 : List Int) (a1z : Bool) (a1 : List Int) : ∀ k, (∀ (x0z : Bool) (x0 : List Int) (x1z : Bool) (x1 : List Int) (x33z : Bool) (x33 : List Int) (x34 : Int) (x35 : Int), rounds Try.prog impl_ShaBlock.Cs (finish Try.prog [] Try.f200 [.v (.nums 3 .i64 a0z a0), .v (.nums 5 .u8 a1z a1)]) 100000 k impl_ShaBlock.K0 (impl_ShaBlock.N0 x0z x0 x1z x1 x33z x33 x34 x35) = (impl_ShaBlock.l0 k x0z x0 x1z x1 x33z x33 x34 x35).map impl_ShaBlock.enc) ∧ (∀ (x0z : Bool) (x0 : List Int) (x1z : Bool) (x1 : List Int) (x8z : Bool) (x8 : List Int) (x46 : Int) (c7 : List Int), rounds Try.prog impl_ShaBlock.Cs (finish Try.prog [] Try.f200 [.v (.nums 3 .i64 a0z a0), .v (.nums 5 .u8 a1z a1)]) 100000 k impl_ShaBlock.K1 (impl_ShaBlock.N1 x0z x0 x1z x1 x8z x8 x46 c7) = (impl_ShaBlock.l1 k x0z x0 x1z x1 x8z x8 x46 c7).map impl_ShaBlock.enc) ∧ (∀ (x0z : Bool) (x0 : List Int) (x8z : Bool) (x8 : List Int) (x11 : Int) (c7 : List Int), rounds Try.prog impl_ShaBlock.Cs (finish Try.prog [] Try.f200 [.v (.nums 3 .i64 a0z a0), .v (.nums 5 .u8 a1z a1)]) 100000 k impl_ShaBlock.K2 (impl_ShaBlock.N2 x0z x0 x8z x8 x11 c7) = (impl_ShaBlock.l2 k x0z x0 x8z x8 x11 c7).map impl_ShaBlock.enc) ∧ (∀ (x0z : Bool) (x0 : List Int) (x8z : Bool) (x8 : List Int) (x132 : Int) (c7 : List Int) (c9 : List Int), rounds Try.prog impl_ShaBlock.Cs (finish Try.prog [] Try.f200 [.v (.nums 3 .i64 a0z a0), .v (.nums 5 .u8 a1z a1)]) 100000 k impl_ShaBlock.K3 (impl_ShaBlock.N3 x0z x0 x8z x8 x132 c7 c9) = (impl_ShaBlock.l3 k x0z x0 x8z x8 x132 c7 c9).map impl_ShaBlock.enc) ∧ (∀ (x0z : Bool) (x0 : List Int) (x23 : List Int) (x218 : Int) (c9 : List Int), rounds Try.prog impl_ShaBlock.Cs (finish Try.prog [] Try.f200 [.v (.nums 3 .i64 a0z a0), .v (.nums 5 .u8 a1z a1)]) 100000 k impl_ShaBlock.K4 (impl_ShaBlock.N4 x0z x0 x23 x218 c9) = (impl_ShaBlock.l4 k x0z x0 x23 x218 c9).map impl_ShaBlock.enc)
  | 0 => ⟨fun _ _ _ _ _ _ _ _ => rfl, fun _ _ _ _ _ _ _ _ => rfl, fun _ _ _ _ _ _ => rfl, fun _ _ _ _ _ _ _ => rfl, fun _ _ _ _ _ => rfl⟩
  | k + 1 => by
    have ih := impl_ShaBlock.rounds_eq a0z a0 a1z a1 k
    refine ⟨fun _ _ _ _ _ _ _ _ => ?_, fun _ _ _ _ _ _ _ _ => ?_, fun _ _ _ _ _ _ => ?_, fun _ _ _ _ _ _ _ => ?_, fun _ _ _ _ _ => ?_⟩
    · refine (impl_ShaBlock.s0 k _ a0z a0 a1z a1 _ _ _ _ _ _ _ _).trans (Eq.trans ?_ (impl_ShaBlock.l0b_nat impl_ShaBlock.enc some (impl_ShaBlock.l0 k) (impl_ShaBlock.l1 k) (impl_ShaBlock.l2 k) (impl_ShaBlock.l3 k) (impl_ShaBlock.l4 k) k _ _ _ _ _ _ _ _))
      simp only [ih.1, ih.2.1, ih.2.2.1, ih.2.2.2.1, ih.2.2.2.2, Option.map_some]
    · refine (impl_ShaBlock.s1 k _ a0z a0 a1z a1 _ _ _ _ _ _ _ _).trans (Eq.trans ?_ (impl_ShaBlock.l1b_nat impl_ShaBlock.enc some (impl_ShaBlock.l0 k) (impl_ShaBlock.l1 k) (impl_ShaBlock.l2 k) (impl_ShaBlock.l3 k) (impl_ShaBlock.l4 k) k _ _ _ _ _ _ _ _))
      simp only [ih.1, ih.2.1, ih.2.2.1, ih.2.2.2.1, ih.2.2.2.2, Option.map_some]
    · refine (impl_ShaBlock.s2 k _ a0z a0 a1z a1 _ _ _ _ _ _).trans (Eq.trans ?_ (impl_ShaBlock.l2b_nat impl_ShaBlock.enc some (impl_ShaBlock.l0 k) (impl_ShaBlock.l1 k) (impl_ShaBlock.l2 k) (impl_ShaBlock.l3 k) (impl_ShaBlock.l4 k) k _ _ _ _ _ _))
      simp only [ih.1, ih.2.1, ih.2.2.1, ih.2.2.2.1, ih.2.2.2.2, Option.map_some]
    · refine (impl_ShaBlock.s3 k _ a0z a0 a1z a1 _ _ _ _ _ _ _).trans (Eq.trans ?_ (impl_ShaBlock.l3b_nat impl_ShaBlock.enc some (impl_ShaBlock.l0 k) (impl_ShaBlock.l1 k) (impl_ShaBlock.l2 k) (impl_ShaBlock.l3 k) (impl_ShaBlock.l4 k) k _ _ _ _ _ _ _))
      simp only [ih.1, ih.2.1, ih.2.2.1, ih.2.2.2.1, ih.2.2.2.2, Option.map_some]
    · refine (impl_ShaBlock.s4 k _ a0z a0 a1z a1 _ _ _ _ _).trans (Eq.trans ?_ (impl_ShaBlock.l4b_nat impl_ShaBlock.enc some (impl_ShaBlock.l0 k) (impl_ShaBlock.l1 k) (impl_ShaBlock.l2 k) (impl_ShaBlock.l3 k) (impl_ShaBlock.l4 k) k _ _ _ _ _))
      simp only [ih.1, ih.2.1, ih.2.2.1, ih.2.2.2.1, ih.2.2.2.2, Option.map_some]
theorem impl_ShaBlock.eq (k : Nat) (a0z : Bool) (a0 : List Int) (a1z : Bool) (a1 : List Int) : answer Try.prog impl_ShaBlock.Cs 100000 impl_ShaBlock.cuts [] Try.f200 (k + 1) [.v (.nums 3 .i64 a0z a0), .v (.nums 5 .u8 a1z a1)] = (impl_ShaBlock.f (k + 1) a0z a0 a1z a1).map impl_ShaBlock.enc := by
  have ih := impl_ShaBlock.rounds_eq a0z a0 a1z a1 k
  refine (impl_ShaBlock.s k a0z a0 a1z a1).trans (Eq.trans ?_ (impl_ShaBlock.b_nat impl_ShaBlock.enc some (impl_ShaBlock.l0 k) (impl_ShaBlock.l1 k) (impl_ShaBlock.l2 k) (impl_ShaBlock.l3 k) (impl_ShaBlock.l4 k) k a0z a0 a1z a1))
  simp only [ih.1, ih.2.1, ih.2.2.1, ih.2.2.2.1, ih.2.2.2.2, Option.map_some]
theorem impl_ShaBlock.sound (k : Nat) : SoundF Try.prog 200 (fun a => (impl_ShaBlock.ans k a).val) := by
  refine sound_plain (fun args res h => ?_) (fun t n => rfl)
  unfold impl_ShaBlock.ans at h
  dsimp only at h
  split at h
  · cases k with
    | zero => cases h
    | succ k =>
      unfold Ans.val at h
      rw [← impl_ShaBlock.eq] at h
      exact answer_sound mixed Try.func200 _ _ _ (k + 1) (fun j _ => tab_sound (tab_cons (impl_isWord.sound j) (tab_cons (impl_rounds.sound j) (tab_cons (impl_TurnRight.sound j) (tab_nil))))) _ _ h
  · exact (Ans.no_val h).elim

/-! loop.example/g00790/impl.Sha -/
def impl_Sha.b {R : Type} (ret : Bool × List Int → Option R) (j0 : Bool → (List Int) → Bool → (List Int) → Int → Option R) (j1 : (List Int) → Bool → (List Int) → Int → Int → Option R) (k : Nat) (a0z : Bool) (a0 : List Int) : Option R :=
  (impl_ShaInit.f k).bind fun t0 => (impl_ShaPad.f k a0z a0).bind fun t1 => j0 t0.1 t0.2 t1.1 t1.2 0
def impl_Sha.l0b {R : Type} (ret : Bool × List Int → Option R) (j0 : Bool → (List Int) → Bool → (List Int) → Int → Option R) (j1 : (List Int) → Bool → (List Int) → Int → Int → Option R) (k : Nat) (x3z : Bool) (x3 : List Int) (x4z : Bool) (x4 : List Int) (x5 : Int) : Option R :=
  cond (decide (x5 < ((x4).length : Int))) (cond (decide ((0 : Int) ≤ (RowKit.wrap64 (x5 + 64)))) (cond (decide ((RowKit.wrap64 (x5 + 64)) ≤ ((x4).length : Int))) (cond (decide ((0 : Int) ≤ x5)) (cond (decide (x5 ≤ (RowKit.wrap64 (x5 + 64)))) ((impl_ShaBlock.f k x3z x3 x4z (((x4).take ((RowKit.wrap64 (x5 + 64))).toNat).drop (x5).toNat)).bind fun t0 => j0 t0.1 t0.2 x4z x4 (RowKit.wrap64 (x5 + 64))) (none)) (none)) (none)) (none)) (j1 ([] : List Int) x3z x3 ((x3).length : Int) 0)
def impl_Sha.l1b {R : Type} (ret : Bool × List Int → Option R) (j0 : Bool → (List Int) → Bool → (List Int) → Int → Option R) (j1 : (List Int) → Bool → (List Int) → Int → Int → Option R) (k : Nat) (x6 : List Int) (x26z : Bool) (x26 : List Int) (x27 : Int) (x28 : Int) : Option R :=
  cond (decide (x28 < x27)) (cond (decide ((0 : Int) ≤ x28)) (cond (decide (x28 < ((x26).length : Int))) (cond (decide ((x6).length + 4 < 140737488355328)) (j1 (x6 ++ ([(((shrI .i64 (rdI x26 x28) 24)) % 256), (((shrI .i64 (rdI x26 x28) 16)) % 256), (((shrI .i64 (rdI x26 x28) 8)) % 256), (((rdI x26 x28)) % 256)] : List Int)) x26z x26 x27 (RowKit.wrap64 (x28 + 1))) (none)) (none)) (none)) (ret (false, x6))
mutual
def impl_Sha.l0 : Nat → Bool → (List Int) → Bool → (List Int) → Int → Option (Bool × List Int)
  | 0, _, _, _, _, _ => none
  | k + 1, x3z, x3, x4z, x4, x5 => impl_Sha.l0b some (impl_Sha.l0 k) (impl_Sha.l1 k) k x3z x3 x4z x4 x5
def impl_Sha.l1 : Nat → (List Int) → Bool → (List Int) → Int → Int → Option (Bool × List Int)
  | 0, _, _, _, _, _ => none
  | k + 1, x6, x26z, x26, x27, x28 => impl_Sha.l1b some (impl_Sha.l0 k) (impl_Sha.l1 k) k x6 x26z x26 x27 x28
end
def impl_Sha.f : Nat → Bool → (List Int) → Option (Bool × List Int)
  | 0, _, _ => none
  | k + 1, a0z, a0 => impl_Sha.b some (impl_Sha.l0 k) (impl_Sha.l1 k) k a0z a0
def impl_Sha.enc (r : Bool × List Int) : Res := ⟨[.vals false [((.nums 5 .u8 r.1 r.2), true)]], []⟩
def impl_Sha.ans (k : Nat) : List Arg → Ans
  | [.v (.nums 5 .u8 a0z a0)] => ⟨impl_Sha.f k a0z a0, impl_Sha.enc⟩
  | _ => Ans.no
def impl_Sha.Cs (k : Nat) : CallSem := tab [(198, impl_ShaInit.ans k), (199, impl_ShaPad.ans k), (200, impl_ShaBlock.ans k)]
def impl_Sha.cuts : List (Nat × Keep) := [(58, ⟨[(3, none), (4, none), (5, some [])], []⟩), (250, ⟨[(6, none), (26, none), (27, some []), (28, some [])], []⟩)]
noncomputable def impl_Sha.K0 : List Fr := framesAt [true, true, false, true, false] (bodyOf Try.f159 impl_Sha.cuts) []
def impl_Sha.N0 (x3z : Bool) (x3 : List Int) (x4z : Bool) (x4 : List Int) (x5 : Int) : St := stOf 48 48 1 [(3, .val ⟨(.nums 3 .i64 x3z x3), [.l 3 0], true, some (.l 3 0)⟩), (4, .val ⟨(.nums 5 .u8 x4z x4), [.l 4 0], true, some (.l 4 0)⟩), (5, .val (V.s (.int .i64 x5)))] []
noncomputable def impl_Sha.K1 : List Fr := framesAt [true, true, true, true, false, true, false] (bodyOf Try.f159 impl_Sha.cuts) []
def impl_Sha.N1 (x6 : List Int) (x26z : Bool) (x26 : List Int) (x27 : Int) (x28 : Int) : St := stOf 48 48 1 [(6, .val ⟨(.nums 5 .u8 false x6), [.l 6 0], true, some (.l 6 0)⟩), (26, .val ⟨(.nums 3 .i64 x26z x26), [.l 26 0], true, some (.l 26 0)⟩), (27, .val (V.s (.int .i64 x27))), (28, .val (V.s (.int .i64 x28)))] []
theorem impl_Sha.s (k : Nat) (a0z : Bool) (a0 : List Int) : answer Try.prog impl_Sha.Cs 100000 impl_Sha.cuts [] Try.f159 (k + 1) [.v (.nums 5 .u8 a0z a0)] = impl_Sha.b (fun r => some (impl_Sha.enc r)) (fun x3z x3 x4z x4 x5 => rounds Try.prog impl_Sha.Cs (finish Try.prog [] Try.f159 [.v (.nums 5 .u8 a0z a0)]) 100000 k impl_Sha.K0 (impl_Sha.N0 x3z x3 x4z x4 x5)) (fun x6 x26z x26 x27 x28 => rounds Try.prog impl_Sha.Cs (finish Try.prog [] Try.f159 [.v (.nums 5 .u8 a0z a0)]) 100000 k impl_Sha.K1 (impl_Sha.N1 x6 x26z x26 x27 x28)) k a0z a0 := by kernel_rfl
theorem impl_Sha.s0 (k : Nat) (G : List Fr → St → Option Res) (a0z : Bool) (a0 : List Int) (yx3z : Bool) (yx3 : List Int) (yx4z : Bool) (yx4 : List Int) (yx5 : Int) : resume Try.prog (impl_Sha.Cs k) G (finish Try.prog [] Try.f159 [.v (.nums 5 .u8 a0z a0)]) 100000 impl_Sha.K0 (impl_Sha.N0 yx3z yx3 yx4z yx4 yx5) = impl_Sha.l0b (fun r => some (impl_Sha.enc r)) (fun x3z x3 x4z x4 x5 => G impl_Sha.K0 (impl_Sha.N0 x3z x3 x4z x4 x5)) (fun x6 x26z x26 x27 x28 => G impl_Sha.K1 (impl_Sha.N1 x6 x26z x26 x27 x28)) k yx3z yx3 yx4z yx4 yx5 := by kernel_rfl
theorem impl_Sha.s1 (k : Nat) (G : List Fr → St → Option Res) (a0z : Bool) (a0 : List Int) (yx6 : List Int) (yx26z : Bool) (yx26 : List Int) (yx27 : Int) (yx28 : Int) : resume Try.prog (impl_Sha.Cs k) G (finish Try.prog [] Try.f159 [.v (.nums 5 .u8 a0z a0)]) 100000 impl_Sha.K1 (impl_Sha.N1 yx6 yx26z yx26 yx27 yx28) = impl_Sha.l1b (fun r => some (impl_Sha.enc r)) (fun x3z x3 x4z x4 x5 => G impl_Sha.K0 (impl_Sha.N0 x3z x3 x4z x4 x5)) (fun x6 x26z x26 x27 x28 => G impl_Sha.K1 (impl_Sha.N1 x6 x26z x26 x27 x28)) k yx6 yx26z yx26 yx27 yx28 := by kernel_rfl
theorem impl_Sha.b_nat {R R' : Type} (e : R → R') (ret : Bool × List Int → Option R) (j0 : Bool → (List Int) → Bool → (List Int) → Int → Option R) (j1 : (List Int) → Bool → (List Int) → Int → Int → Option R) (k : Nat) (a0z : Bool) (a0 : List Int) : impl_Sha.b (fun r => (ret r).map e) (fun x3z x3 x4z x4 x5 => (j0 x3z x3 x4z x4 x5).map e) (fun x6 x26z x26 x27 x28 => (j1 x6 x26z x26 x27 x28).map e) k a0z a0 = (impl_Sha.b ret j0 j1 k a0z a0).map e := by
  unfold impl_Sha.b
  repeat' first | with_reducible refine nat_cond ?_ ?_ | with_reducible refine nat_bind fun _ => ?_ | rfl
theorem impl_Sha.l0b_nat {R R' : Type} (e : R → R') (ret : Bool × List Int → Option R) (j0 : Bool → (List Int) → Bool → (List Int) → Int → Option R) (j1 : (List Int) → Bool → (List Int) → Int → Int → Option R) (k : Nat) (x3z : Bool) (x3 : List Int) (x4z : Bool) (x4 : List Int) (x5 : Int) : impl_Sha.l0b (fun r => (ret r).map e) (fun x3z x3 x4z x4 x5 => (j0 x3z x3 x4z x4 x5).map e) (fun x6 x26z x26 x27 x28 => (j1 x6 x26z x26 x27 x28).map e) k x3z x3 x4z x4 x5 = (impl_Sha.l0b ret j0 j1 k x3z x3 x4z x4 x5).map e := by
  unfold impl_Sha.l0b
  repeat' first | with_reducible refine nat_cond ?_ ?_ | with_reducible refine nat_bind fun _ => ?_ | rfl
theorem impl_Sha.l1b_nat {R R' : Type} (e : R → R') (ret : Bool × List Int → Option R) (j0 : Bool → (List Int) → Bool → (List Int) → Int → Option R) (j1 : (List Int) → Bool → (List Int) → Int → Int → Option R) (k : Nat) (x6 : List Int) (x26z : Bool) (x26 : List Int) (x27 : Int) (x28 : Int) : impl_Sha.l1b (fun r => (ret r).map e) (fun x3z x3 x4z x4 x5 => (j0 x3z x3 x4z x4 x5).map e) (fun x6 x26z x26 x27 x28 => (j1 x6 x26z x26 x27 x28).map e) k x6 x26z x26 x27 x28 = (impl_Sha.l1b ret j0 j1 k x6 x26z x26 x27 x28).map e := by
  unfold impl_Sha.l1b
  repeat' first | with_reducible refine nat_cond ?_ ?_ | with_reducible refine nat_bind fun _ => ?_ | rfl
theorem impl_Sha.rounds_eq (a0z : Bool) (a0 : List Int) : ∀ k, (∀ (x3z : Bool) (x3 : List Int) (x4z : Bool) (x4 : List Int) (x5 : Int), rounds Try.prog impl_Sha.Cs (finish Try.prog [] Try.f159 [.v (.nums 5 .u8 a0z a0)]) 100000 k impl_Sha.K0 (impl_Sha.N0 x3z x3 x4z x4 x5) = (impl_Sha.l0 k x3z x3 x4z x4 x5).map impl_Sha.enc) ∧ (∀ (x6 : List Int) (x26z : Bool) (x26 : List Int) (x27 : Int) (x28 : Int), rounds Try.prog impl_Sha.Cs (finish Try.prog [] Try.f159 [.v (.nums 5 .u8 a0z a0)]) 100000 k impl_Sha.K1 (impl_Sha.N1 x6 x26z x26 x27 x28) = (impl_Sha.l1 k x6 x26z x26 x27 x28).map impl_Sha.enc)
  | 0 => ⟨fun _ _ _ _ _ => rfl, fun _ _ _ _ _ => rfl⟩
  | k + 1 => by
    have ih := impl_Sha.rounds_eq a0z a0 k
    refine ⟨fun _ _ _ _ _ => ?_, fun _ _ _ _ _ => ?_⟩
    · refine (impl_Sha.s0 k _ a0z a0 _ _ _ _ _).trans (Eq.trans ?_ (impl_Sha.l0b_nat impl_Sha.enc some (impl_Sha.l0 k) (impl_Sha.l1 k) k _ _ _ _ _))
      simp only [ih.1, ih.2, Option.map_some]
    · refine (impl_Sha.s1 k _ a0z a0 _ _ _ _ _).trans (Eq.trans ?_ (impl_Sha.l1b_nat impl_Sha.enc some (impl_Sha.l0 k) (impl_Sha.l1 k) k _ _ _ _ _))
      simp only [ih.1, ih.2, Option.map_some]
theorem impl_Sha.eq (k : Nat) (a0z : Bool) (a0 : List Int) : answer Try.prog impl_Sha.Cs 100000 impl_Sha.cuts [] Try.f159 (k + 1) [.v (.nums 5 .u8 a0z a0)] = (impl_Sha.f (k + 1) a0z a0).map impl_Sha.enc := by
  have ih := impl_Sha.rounds_eq a0z a0 k
  refine (impl_Sha.s k a0z a0).trans (Eq.trans ?_ (impl_Sha.b_nat impl_Sha.enc some (impl_Sha.l0 k) (impl_Sha.l1 k) k a0z a0))
  simp only [ih.1, ih.2, Option.map_some]
theorem impl_Sha.sound (k : Nat) : SoundF Try.prog 159 (fun a => (impl_Sha.ans k a).val) := by
  refine sound_plain (fun args res h => ?_) (fun t n => rfl)
  unfold impl_Sha.ans at h
  dsimp only at h
  split at h
  · cases k with
    | zero => cases h
    | succ k =>
      unfold Ans.val at h
      rw [← impl_Sha.eq] at h
      exact answer_sound mixed Try.func159 _ _ _ (k + 1) (fun j _ => tab_sound (tab_cons (impl_ShaInit.sound j) (tab_cons (impl_ShaPad.sound j) (tab_cons (impl_ShaBlock.sound j) (tab_nil))))) _ _ h
  · exact (Ans.no_val h).elim

/-! loop.example/g00790/impl.MacKey -/
def impl_MacKey.b {R : Type} (ret : Bool × List Int → Option R) (k : Nat) (a0z : Bool) (a0 : List Int) : Option R :=
  cond (decide (((a0).length : Int) > 64)) ((impl_Sha.f k a0z a0).bind fun t0 => ret (false, ((t0.2).take ((List.replicate 64 (0 : Int))).length ++ ((List.replicate 64 (0 : Int))).drop (t0.2).length))) (ret (false, ((a0).take ((List.replicate 64 (0 : Int))).length ++ ((List.replicate 64 (0 : Int))).drop (a0).length)))
def impl_MacKey.f : Nat → Bool → (List Int) → Option (Bool × List Int)
  | 0, _, _ => none
  | k + 1, a0z, a0 => impl_MacKey.b some k a0z a0
def impl_MacKey.enc (r : Bool × List Int) : Res := ⟨[.vals false [((.nums 5 .u8 r.1 r.2), true)]], []⟩
def impl_MacKey.ans (k : Nat) : List Arg → Ans
  | [.v (.nums 5 .u8 a0z a0)] => ⟨impl_MacKey.f k a0z a0, impl_MacKey.enc⟩
  | _ => Ans.no
def impl_MacKey.Cs (k : Nat) : CallSem := tab [(159, impl_Sha.ans k)]
def impl_MacKey.cuts : List (Nat × Keep) := []
theorem impl_MacKey.s (k : Nat) (a0z : Bool) (a0 : List Int) : answer Try.prog impl_MacKey.Cs 100000 impl_MacKey.cuts [] Try.f185 (k + 1) [.v (.nums 5 .u8 a0z a0)] = impl_MacKey.b (fun r => some (impl_MacKey.enc r)) k a0z a0 := by kernel_rfl
theorem impl_MacKey.b_nat {R R' : Type} (e : R → R') (ret : Bool × List Int → Option R) (k : Nat) (a0z : Bool) (a0 : List Int) : impl_MacKey.b (fun r => (ret r).map e) k a0z a0 = (impl_MacKey.b ret k a0z a0).map e := by
  unfold impl_MacKey.b
  repeat' first | with_reducible refine nat_cond ?_ ?_ | with_reducible refine nat_bind fun _ => ?_ | rfl
theorem impl_MacKey.eq (k : Nat) (a0z : Bool) (a0 : List Int) : answer Try.prog impl_MacKey.Cs 100000 impl_MacKey.cuts [] Try.f185 (k + 1) [.v (.nums 5 .u8 a0z a0)] = (impl_MacKey.f (k + 1) a0z a0).map impl_MacKey.enc := by
  refine (impl_MacKey.s k a0z a0).trans (Eq.trans ?_ (impl_MacKey.b_nat impl_MacKey.enc some k a0z a0))
  simp only [Option.map_some]
theorem impl_MacKey.sound (k : Nat) : SoundF Try.prog 185 (fun a => (impl_MacKey.ans k a).val) := by
  refine sound_plain (fun args res h => ?_) (fun t n => rfl)
  unfold impl_MacKey.ans at h
  dsimp only at h
  split at h
  · cases k with
    | zero => cases h
    | succ k =>
      unfold Ans.val at h
      rw [← impl_MacKey.eq] at h
      exact answer_sound mixed Try.func185 _ _ _ (k + 1) (fun j _ => tab_sound (tab_cons (impl_Sha.sound j) (tab_nil))) _ _ h
  · exact (Ans.no_val h).elim

/-! loop.example/g00790/impl.masked -/
def impl_masked.b {R : Type} (ret : Bool × List Int → Option R) (j0 : Int → (List Int) → Bool → (List Int) → Int → Int → Option R) (k : Nat) (a0z : Bool) (a0 : List Int) (a1 : Int) : Option R :=
  j0 a1 ([] : List Int) a0z a0 ((a0).length : Int) 0
def impl_masked.l0b {R : Type} (ret : Bool × List Int → Option R) (j0 : Int → (List Int) → Bool → (List Int) → Int → Int → Option R) (k : Nat) (x1 : Int) (x5 : List Int) (x9z : Bool) (x9 : List Int) (x10 : Int) (x11 : Int) : Option R :=
  cond (decide (x11 < x10)) (cond (decide ((0 : Int) ≤ x11)) (cond (decide (x11 < ((x9).length : Int))) (cond (decide ((x5).length + 1 < 140737488355328)) (j0 x1 (x5 ++ ([(Go.bits .xor .u8 (rdI x9 x11) x1)] : List Int)) x9z x9 x10 (RowKit.wrap64 (x11 + 1))) (none)) (none)) (none)) (ret (false, x5))
def impl_masked.l0 : Nat → Int → (List Int) → Bool → (List Int) → Int → Int → Option (Bool × List Int)
  | 0, _, _, _, _, _, _ => none
  | k + 1, x1, x5, x9z, x9, x10, x11 => impl_masked.l0b some (impl_masked.l0 k) k x1 x5 x9z x9 x10 x11
def impl_masked.f : Nat → Bool → (List Int) → Int → Option (Bool × List Int)
  | 0, _, _, _ => none
  | k + 1, a0z, a0, a1 => impl_masked.b some (impl_masked.l0 k) k a0z a0 a1
def impl_masked.enc (r : Bool × List Int) : Res := ⟨[.vals false [((.nums 5 .u8 r.1 r.2), true)]], []⟩
def impl_masked.ans (k : Nat) : List Arg → Ans
  | [.v (.nums 5 .u8 a0z a0), .v (.int .u8 a1)] => ⟨impl_masked.f k a0z a0 a1, impl_masked.enc⟩
  | _ => Ans.no
def impl_masked.Cs (k : Nat) : CallSem := tab []
def impl_masked.cuts : List (Nat × Keep) := [(58, ⟨[(1, some []), (5, none), (9, some []), (10, some []), (11, some [])], []⟩)]
noncomputable def impl_masked.K0 : List Fr := framesAt [true, true, false, true, false] (bodyOf Try.f186 impl_masked.cuts) []
def impl_masked.N0 (x1 : Int) (x5 : List Int) (x9z : Bool) (x9 : List Int) (x10 : Int) (x11 : Int) : St := stOf 23 23 2 [(1, .val (V.s (.int .u8 x1))), (5, .val ⟨(.nums 5 .u8 false x5), [.l 5 0], true, some (.l 5 0)⟩), (9, .val ⟨(.nums 5 .u8 x9z x9), [], false, none⟩), (10, .val (V.s (.int .i64 x10))), (11, .val (V.s (.int .i64 x11)))] []
theorem impl_masked.s (k : Nat) (a0z : Bool) (a0 : List Int) (a1 : Int) : answer Try.prog impl_masked.Cs 100000 impl_masked.cuts [] Try.f186 (k + 1) [.v (.nums 5 .u8 a0z a0), .v (.int .u8 a1)] = impl_masked.b (fun r => some (impl_masked.enc r)) (fun x1 x5 x9z x9 x10 x11 => rounds Try.prog impl_masked.Cs (finish Try.prog [] Try.f186 [.v (.nums 5 .u8 a0z a0), .v (.int .u8 a1)]) 100000 k impl_masked.K0 (impl_masked.N0 x1 x5 x9z x9 x10 x11)) k a0z a0 a1 := by kernel_rfl
theorem impl_masked.s0 (k : Nat) (G : List Fr → St → Option Res) (a0z : Bool) (a0 : List Int) (a1 : Int) (yx1 : Int) (yx5 : List Int) (yx9z : Bool) (yx9 : List Int) (yx10 : Int) (yx11 : Int) : resume Try.prog (impl_masked.Cs k) G (finish Try.prog [] Try.f186 [.v (.nums 5 .u8 a0z a0), .v (.int .u8 a1)]) 100000 impl_masked.K0 (impl_masked.N0 yx1 yx5 yx9z yx9 yx10 yx11) = impl_masked.l0b (fun r => some (impl_masked.enc r)) (fun x1 x5 x9z x9 x10 x11 => G impl_masked.K0 (impl_masked.N0 x1 x5 x9z x9 x10 x11)) k yx1 yx5 yx9z yx9 yx10 yx11 := by kernel_rfl
theorem impl_masked.b_nat {R R' : Type} (e : R → R') (ret : Bool × List Int → Option R) (j0 : Int → (List Int) → Bool → (List Int) → Int → Int → Option R) (k : Nat) (a0z : Bool) (a0 : List Int) (a1 : Int) : impl_masked.b (fun r => (ret r).map e) (fun x1 x5 x9z x9 x10 x11 => (j0 x1 x5 x9z x9 x10 x11).map e) k a0z a0 a1 = (impl_masked.b ret j0 k a0z a0 a1).map e := by
  unfold impl_masked.b
  repeat' first | with_reducible refine nat_cond ?_ ?_ | with_reducible refine nat_bind fun _ => ?_ | rfl
theorem impl_masked.l0b_nat {R R' : Type} (e : R → R') (ret : Bool × List Int → Option R) (j0 : Int → (List Int) → Bool → (List Int) → Int → Int → Option R) (k : Nat) (x1 : Int) (x5 : List Int) (x9z : Bool) (x9 : List Int) (x10 : Int) (x11 : Int) : impl_masked.l0b (fun r => (ret r).map e) (fun x1 x5 x9z x9 x10 x11 => (j0 x1 x5 x9z x9 x10 x11).map e) k x1 x5 x9z x9 x10 x11 = (impl_masked.l0b ret j0 k x1 x5 x9z x9 x10 x11).map e := by
  unfold impl_masked.l0b
  repeat' first | with_reducible refine nat_cond ?_ ?_ | with_reducible refine nat_bind fun _ => ?_ | rfl
theorem impl_masked.rounds_eq (a0z : Bool) (a0 : List Int) (a1 : Int) : ∀ k, (∀ (x1 : Int) (x5 : List Int) (x9z : Bool) (x9 : List Int) (x10 : Int) (x11 : Int), rounds Try.prog impl_masked.Cs (finish Try.prog [] Try.f186 [.v (.nums 5 .u8 a0z a0), .v (.int .u8 a1)]) 100000 k impl_masked.K0 (impl_masked.N0 x1 x5 x9z x9 x10 x11) = (impl_masked.l0 k x1 x5 x9z x9 x10 x11).map impl_masked.enc)
  | 0 => fun _ _ _ _ _ _ => rfl
  | k + 1 => by
    have ih := impl_masked.rounds_eq a0z a0 a1 k
    refine fun _ _ _ _ _ _ => ?_
    · refine (impl_masked.s0 k _ a0z a0 a1 _ _ _ _ _ _).trans (Eq.trans ?_ (impl_masked.l0b_nat impl_masked.enc some (impl_masked.l0 k) k _ _ _ _ _ _))
      simp only [ih, Option.map_some]
theorem impl_masked.eq (k : Nat) (a0z : Bool) (a0 : List Int) (a1 : Int) : answer Try.prog impl_masked.Cs 100000 impl_masked.cuts [] Try.f186 (k + 1) [.v (.nums 5 .u8 a0z a0), .v (.int .u8 a1)] = (impl_masked.f (k + 1) a0z a0 a1).map impl_masked.enc := by
  have ih := impl_masked.rounds_eq a0z a0 a1 k
  refine (impl_masked.s k a0z a0 a1).trans (Eq.trans ?_ (impl_masked.b_nat impl_masked.enc some (impl_masked.l0 k) k a0z a0 a1))
  simp only [ih, Option.map_some]
theorem impl_masked.sound (k : Nat) : SoundF Try.prog 186 (fun a => (impl_masked.ans k a).val) := by
  refine sound_plain (fun args res h => ?_) (fun t n => rfl)
  unfold impl_masked.ans at h
  dsimp only at h
  split at h
  · cases k with
    | zero => cases h
    | succ k =>
      unfold Ans.val at h
      rw [← impl_masked.eq] at h
      exact answer_sound mixed Try.func186 _ _ _ (k + 1) (fun j _ => tab_sound (tab_nil)) _ _ h
  · exact (Ans.no_val h).elim

/-! loop.example/g00790/impl.Mac -/
def impl_Mac.b {R : Type} (ret : Bool × List Int → Option R) (k : Nat) (a0z : Bool) (a0 : List Int) (a1z : Bool) (a1 : List Int) : Option R :=
  (impl_MacKey.f k a0z a0).bind fun t0 => (impl_masked.f k t0.1 t0.2 92).bind fun t1 => (impl_masked.f k t0.1 t0.2 54).bind fun t2 => cond (decide ((t2.2).length + (a1).length < 140737488355328)) ((impl_Sha.f k ((a1).isEmpty && t2.1) (t2.2 ++ a1)).bind fun t3 => cond (decide ((t1.2).length + (t3.2).length < 140737488355328)) ((impl_Sha.f k ((t3.2).isEmpty && t1.1) (t1.2 ++ t3.2)).bind fun t4 => ret (t4.1, t4.2)) (none)) (none)
def impl_Mac.f : Nat → Bool → (List Int) → Bool → (List Int) → Option (Bool × List Int)
  | 0, _, _, _, _ => none
  | k + 1, a0z, a0, a1z, a1 => impl_Mac.b some k a0z a0 a1z a1
def impl_Mac.enc (r : Bool × List Int) : Res := ⟨[.vals false [((.nums 5 .u8 r.1 r.2), true)]], []⟩
def impl_Mac.ans (k : Nat) : List Arg → Ans
  | [.v (.nums 5 .u8 a0z a0), .v (.nums 5 .u8 a1z a1)] => ⟨impl_Mac.f k a0z a0 a1z a1, impl_Mac.enc⟩
  | _ => Ans.no
def impl_Mac.Cs (k : Nat) : CallSem := tab [(185, impl_MacKey.ans k), (159, impl_Sha.ans k), (186, impl_masked.ans k)]
def impl_Mac.cuts : List (Nat × Keep) := []
theorem impl_Mac.s (k : Nat) (a0z : Bool) (a0 : List Int) (a1z : Bool) (a1 : List Int) : answer Try.prog impl_Mac.Cs 100000 impl_Mac.cuts [] Try.f127 (k + 1) [.v (.nums 5 .u8 a0z a0), .v (.nums 5 .u8 a1z a1)] = impl_Mac.b (fun r => some (impl_Mac.enc r)) k a0z a0 a1z a1 := by kernel_rfl
theorem impl_Mac.b_nat {R R' : Type} (e : R → R') (ret : Bool × List Int → Option R) (k : Nat) (a0z : Bool) (a0 : List Int) (a1z : Bool) (a1 : List Int) : impl_Mac.b (fun r => (ret r).map e) k a0z a0 a1z a1 = (impl_Mac.b ret k a0z a0 a1z a1).map e := by
  unfold impl_Mac.b
  repeat' first | with_reducible refine nat_cond ?_ ?_ | with_reducible refine nat_bind fun _ => ?_ | rfl
theorem impl_Mac.eq (k : Nat) (a0z : Bool) (a0 : List Int) (a1z : Bool) (a1 : List Int) : answer Try.prog impl_Mac.Cs 100000 impl_Mac.cuts [] Try.f127 (k + 1) [.v (.nums 5 .u8 a0z a0), .v (.nums 5 .u8 a1z a1)] = (impl_Mac.f (k + 1) a0z a0 a1z a1).map impl_Mac.enc := by
  refine (impl_Mac.s k a0z a0 a1z a1).trans (Eq.trans ?_ (impl_Mac.b_nat impl_Mac.enc some k a0z a0 a1z a1))
  simp only [Option.map_some]
theorem impl_Mac.sound (k : Nat) : SoundF Try.prog 127 (fun a => (impl_Mac.ans k a).val) := by
  refine sound_plain (fun args res h => ?_) (fun t n => rfl)
  unfold impl_Mac.ans at h
  dsimp only at h
  split at h
  · cases k with
    | zero => cases h
    | succ k =>
      unfold Ans.val at h
      rw [← impl_Mac.eq] at h
      exact answer_sound mixed Try.func127 _ _ _ (k + 1) (fun j _ => tab_sound (tab_cons (impl_MacKey.sound j) (tab_cons (impl_Sha.sound j) (tab_cons (impl_masked.sound j) (tab_nil))))) _ _ h
  · exact (Ans.no_val h).elim

/-! loop.example/g00790/impl.SignVote -/
def impl_SignVote.b {R : Type} (ret : Int × Int × Bool × (List Int) × Int × Bool × (List Int) × Bool → Option R) (k : Nat) (a0_0z : Bool) (a0_0 : List T) (a1 : Int) (a2 : Int) (a3z : Bool) (a3 : List Int) (a4 : Int) : Option R :=
  (impl_VoteBytes.f k a1 a2 a3z a3).bind fun t0 => (impl_TableOk.f k a0_0z a0_0).bind fun t1 => cond (!t1) (ret (0, 0, true, ([] : List Int), 0, true, ([] : List Int), false)) (cond t0.1 (ret (0, 0, true, ([] : List Int), 0, true, ([] : List Int), false)) ((impl_within.f k a4 0 (RowKit.wrap64 (((a0_0).length : Int) - 1))).bind fun t2 => cond (!t2) (ret (0, 0, true, ([] : List Int), 0, true, ([] : List Int), false)) ((impl_copyBytes.f k a3z a3).bind fun t3 => cond (decide ((0 : Int) ≤ a4)) (cond (decide (a4 < ((a0_0).length : Int))) ((impl_Mac.f k (((((a0_0).getD (a4).toNat .bad).cells.getD 1 .bad)).isNil) (((((a0_0).getD (a4).toNat .bad).cells.getD 1 .bad)).toNums) t0.1 t0.2).bind fun t4 => ret (a1, a2, t3.1, t3.2, a4, t4.1, t4.2, true)) (none)) (none))))
def impl_SignVote.f : Nat → Bool → (List T) → Int → Int → Bool → (List Int) → Int → Option (Int × Int × Bool × (List Int) × Int × Bool × (List Int) × Bool)
  | 0, _, _, _, _, _, _, _ => none
  | k + 1, a0_0z, a0_0, a1, a2, a3z, a3, a4 => impl_SignVote.b some k a0_0z a0_0 a1 a2 a3z a3 a4
def impl_SignVote.enc (r : Int × Int × Bool × (List Int) × Int × Bool × (List Int) × Bool) : Res := ⟨[.vals true [((.int .i64 r.1), true), ((.int .i64 r.2.1), true), ((.nums 5 .u8 r.2.2.1 r.2.2.2.1), true), ((.int .i64 r.2.2.2.2.1), true), ((.nums 5 .u8 r.2.2.2.2.2.1 r.2.2.2.2.2.2.1), true)], .vals false [((.bool r.2.2.2.2.2.2.2), true)]], []⟩
def impl_SignVote.ans (k : Nat) : List Arg → Ans
  | [.v (.agg [(.sl 160 a0_0z a0_0)]), .v (.int .i64 a1), .v (.int .i64 a2), .v (.nums 5 .u8 a3z a3), .v (.int .i64 a4)] => ⟨impl_SignVote.f k a0_0z a0_0 a1 a2 a3z a3 a4, impl_SignVote.enc⟩
  | _ => Ans.no
def impl_SignVote.Cs (k : Nat) : CallSem := tab [(131, impl_VoteBytes.ans k), (126, impl_within.ans k), (132, impl_copyBytes.ans k), (125, impl_TableOk.ans k), (127, impl_Mac.ans k)]
def impl_SignVote.cuts : List (Nat × Keep) := []
theorem impl_SignVote.s (k : Nat) (a0_0z : Bool) (a0_0 : List T) (a1 : Int) (a2 : Int) (a3z : Bool) (a3 : List Int) (a4 : Int) : answer Try.prog impl_SignVote.Cs 100000 impl_SignVote.cuts [] Try.f51 (k + 1) [.v (.agg [(.sl 160 a0_0z a0_0)]), .v (.int .i64 a1), .v (.int .i64 a2), .v (.nums 5 .u8 a3z a3), .v (.int .i64 a4)] = impl_SignVote.b (fun r => some (impl_SignVote.enc r)) k a0_0z a0_0 a1 a2 a3z a3 a4 := by kernel_rfl
theorem impl_SignVote.b_nat {R R' : Type} (e : R → R') (ret : Int × Int × Bool × (List Int) × Int × Bool × (List Int) × Bool → Option R) (k : Nat) (a0_0z : Bool) (a0_0 : List T) (a1 : Int) (a2 : Int) (a3z : Bool) (a3 : List Int) (a4 : Int) : impl_SignVote.b (fun r => (ret r).map e) k a0_0z a0_0 a1 a2 a3z a3 a4 = (impl_SignVote.b ret k a0_0z a0_0 a1 a2 a3z a3 a4).map e := by
  unfold impl_SignVote.b
  repeat' first | with_reducible refine nat_cond ?_ ?_ | with_reducible refine nat_bind fun _ => ?_ | rfl
theorem impl_SignVote.eq (k : Nat) (a0_0z : Bool) (a0_0 : List T) (a1 : Int) (a2 : Int) (a3z : Bool) (a3 : List Int) (a4 : Int) : answer Try.prog impl_SignVote.Cs 100000 impl_SignVote.cuts [] Try.f51 (k + 1) [.v (.agg [(.sl 160 a0_0z a0_0)]), .v (.int .i64 a1), .v (.int .i64 a2), .v (.nums 5 .u8 a3z a3), .v (.int .i64 a4)] = (impl_SignVote.f (k + 1) a0_0z a0_0 a1 a2 a3z a3 a4).map impl_SignVote.enc := by
  refine (impl_SignVote.s k a0_0z a0_0 a1 a2 a3z a3 a4).trans (Eq.trans ?_ (impl_SignVote.b_nat impl_SignVote.enc some k a0_0z a0_0 a1 a2 a3z a3 a4))
  simp only [Option.map_some]
theorem impl_SignVote.sound (k : Nat) : SoundF Try.prog 51 (fun a => (impl_SignVote.ans k a).val) := by
  refine sound_plain (fun args res h => ?_) (fun t n => rfl)
  unfold impl_SignVote.ans at h
  dsimp only at h
  split at h
  · cases k with
    | zero => cases h
    | succ k =>
      unfold Ans.val at h
      rw [← impl_SignVote.eq] at h
      exact answer_sound mixed Try.func51 _ _ _ (k + 1) (fun j _ => tab_sound (tab_cons (impl_VoteBytes.sound j) (tab_cons (impl_within.sound j) (tab_cons (impl_copyBytes.sound j) (tab_cons (impl_TableOk.sound j) (tab_cons (impl_Mac.sound j) (tab_nil))))))) _ _ h
  · exact (Ans.no_val h).elim

/-! loop.example/g00790/laws.eqByteS -/
def laws_eqByteS.b {R : Type} (ret : Bool → Option R) (j0 : Bool → (List Int) → Bool → (List Int) → Int → Option R) (k : Nat) (a0z : Bool) (a0 : List Int) (a1z : Bool) (a1 : List Int) : Option R :=
  cond (!(decide (((a0).length : Int) = ((a1).length : Int)))) (ret false) (j0 a0z a0 a1z a1 0)
def laws_eqByteS.l0b {R : Type} (ret : Bool → Option R) (j0 : Bool → (List Int) → Bool → (List Int) → Int → Option R) (k : Nat) (x0z : Bool) (x0 : List Int) (x1z : Bool) (x1 : List Int) (x5 : Int) : Option R :=
  cond (decide (x5 < ((x0).length : Int))) (cond (decide ((0 : Int) ≤ x5)) (cond (decide (x5 < ((x0).length : Int))) (cond (decide ((0 : Int) ≤ x5)) (cond (decide (x5 < ((x1).length : Int))) (cond (!(decide ((rdI x0 x5) = (rdI x1 x5)))) (ret false) (j0 x0z x0 x1z x1 (RowKit.wrap64 (x5 + 1)))) (none)) (none)) (none)) (none)) (ret true)
def laws_eqByteS.l0 : Nat → Bool → (List Int) → Bool → (List Int) → Int → Option Bool
  | 0, _, _, _, _, _ => none
  | k + 1, x0z, x0, x1z, x1, x5 => laws_eqByteS.l0b some (laws_eqByteS.l0 k) k x0z x0 x1z x1 x5
def laws_eqByteS.f : Nat → Bool → (List Int) → Bool → (List Int) → Option Bool
  | 0, _, _, _, _ => none
  | k + 1, a0z, a0, a1z, a1 => laws_eqByteS.b some (laws_eqByteS.l0 k) k a0z a0 a1z a1
def laws_eqByteS.enc (r : Bool) : Res := ⟨[.vals false [((.bool r), true)]], []⟩
def laws_eqByteS.ans (k : Nat) : List Arg → Ans
  | [.v (.nums 5 .u8 a0z a0), .v (.nums 5 .u8 a1z a1)] => ⟨laws_eqByteS.f k a0z a0 a1z a1, laws_eqByteS.enc⟩
  | _ => Ans.no
def laws_eqByteS.Cs (k : Nat) : CallSem := tab []
def laws_eqByteS.cuts : List (Nat × Keep) := [(58, ⟨[(0, some []), (1, some []), (5, some [])], []⟩)]
noncomputable def laws_eqByteS.K0 : List Fr := framesAt [true, true, false, true, false] (bodyOf Try.f53 laws_eqByteS.cuts) []
def laws_eqByteS.N0 (x0z : Bool) (x0 : List Int) (x1z : Bool) (x1 : List Int) (x5 : Int) : St := stOf 26 26 2 [(0, .val ⟨(.nums 5 .u8 x0z x0), [], false, none⟩), (1, .val ⟨(.nums 5 .u8 x1z x1), [], false, none⟩), (5, .val (V.s (.int .i64 x5)))] []
theorem laws_eqByteS.s (k : Nat) (a0z : Bool) (a0 : List Int) (a1z : Bool) (a1 : List Int) : answer Try.prog laws_eqByteS.Cs 100000 laws_eqByteS.cuts [] Try.f53 (k + 1) [.v (.nums 5 .u8 a0z a0), .v (.nums 5 .u8 a1z a1)] = laws_eqByteS.b (fun r => some (laws_eqByteS.enc r)) (fun x0z x0 x1z x1 x5 => rounds Try.prog laws_eqByteS.Cs (finish Try.prog [] Try.f53 [.v (.nums 5 .u8 a0z a0), .v (.nums 5 .u8 a1z a1)]) 100000 k laws_eqByteS.K0 (laws_eqByteS.N0 x0z x0 x1z x1 x5)) k a0z a0 a1z a1 := by kernel_rfl
theorem laws_eqByteS.s0 (k : Nat) (G : List Fr → St → Option Res) (a0z : Bool) (a0 : List Int) (a1z : Bool) (a1 : List Int) (yx0z : Bool) (yx0 : List Int) (yx1z : Bool) (yx1 : List Int) (yx5 : Int) : resume Try.prog (laws_eqByteS.Cs k) G (finish Try.prog [] Try.f53 [.v (.nums 5 .u8 a0z a0), .v (.nums 5 .u8 a1z a1)]) 100000 laws_eqByteS.K0 (laws_eqByteS.N0 yx0z yx0 yx1z yx1 yx5) = laws_eqByteS.l0b (fun r => some (laws_eqByteS.enc r)) (fun x0z x0 x1z x1 x5 => G laws_eqByteS.K0 (laws_eqByteS.N0 x0z x0 x1z x1 x5)) k yx0z yx0 yx1z yx1 yx5 := by kernel_rfl
theorem laws_eqByteS.b_nat {R R' : Type} (e : R → R') (ret : Bool → Option R) (j0 : Bool → (List Int) → Bool → (List Int) → Int → Option R) (k : Nat) (a0z : Bool) (a0 : List Int) (a1z : Bool) (a1 : List Int) : laws_eqByteS.b (fun r => (ret r).map e) (fun x0z x0 x1z x1 x5 => (j0 x0z x0 x1z x1 x5).map e) k a0z a0 a1z a1 = (laws_eqByteS.b ret j0 k a0z a0 a1z a1).map e := by
  unfold laws_eqByteS.b
  repeat' first | with_reducible refine nat_cond ?_ ?_ | with_reducible refine nat_bind fun _ => ?_ | rfl
theorem laws_eqByteS.l0b_nat {R R' : Type} (e : R → R') (ret : Bool → Option R) (j0 : Bool → (List Int) → Bool → (List Int) → Int → Option R) (k : Nat) (x0z : Bool) (x0 : List Int) (x1z : Bool) (x1 : List Int) (x5 : Int) : laws_eqByteS.l0b (fun r => (ret r).map e) (fun x0z x0 x1z x1 x5 => (j0 x0z x0 x1z x1 x5).map e) k x0z x0 x1z x1 x5 = (laws_eqByteS.l0b ret j0 k x0z x0 x1z x1 x5).map e := by
  unfold laws_eqByteS.l0b
  repeat' first | with_reducible refine nat_cond ?_ ?_ | with_reducible refine nat_bind fun _ => ?_ | rfl
theorem laws_eqByteS.rounds_eq (a0z : Bool) (a0 : List Int) (a1z : Bool) (a1 : List Int) : ∀ k, (∀ (x0z : Bool) (x0 : List Int) (x1z : Bool) (x1 : List Int) (x5 : Int), rounds Try.prog laws_eqByteS.Cs (finish Try.prog [] Try.f53 [.v (.nums 5 .u8 a0z a0), .v (.nums 5 .u8 a1z a1)]) 100000 k laws_eqByteS.K0 (laws_eqByteS.N0 x0z x0 x1z x1 x5) = (laws_eqByteS.l0 k x0z x0 x1z x1 x5).map laws_eqByteS.enc)
  | 0 => fun _ _ _ _ _ => rfl
  | k + 1 => by
    have ih := laws_eqByteS.rounds_eq a0z a0 a1z a1 k
    refine fun _ _ _ _ _ => ?_
    · refine (laws_eqByteS.s0 k _ a0z a0 a1z a1 _ _ _ _ _).trans (Eq.trans ?_ (laws_eqByteS.l0b_nat laws_eqByteS.enc some (laws_eqByteS.l0 k) k _ _ _ _ _))
      simp only [ih, Option.map_some]
theorem laws_eqByteS.eq (k : Nat) (a0z : Bool) (a0 : List Int) (a1z : Bool) (a1 : List Int) : answer Try.prog laws_eqByteS.Cs 100000 laws_eqByteS.cuts [] Try.f53 (k + 1) [.v (.nums 5 .u8 a0z a0), .v (.nums 5 .u8 a1z a1)] = (laws_eqByteS.f (k + 1) a0z a0 a1z a1).map laws_eqByteS.enc := by
  have ih := laws_eqByteS.rounds_eq a0z a0 a1z a1 k
  refine (laws_eqByteS.s k a0z a0 a1z a1).trans (Eq.trans ?_ (laws_eqByteS.b_nat laws_eqByteS.enc some (laws_eqByteS.l0 k) k a0z a0 a1z a1))
  simp only [ih, Option.map_some]
theorem laws_eqByteS.sound (k : Nat) : SoundF Try.prog 53 (fun a => (laws_eqByteS.ans k a).val) := by
  refine sound_plain (fun args res h => ?_) (fun t n => rfl)
  unfold laws_eqByteS.ans at h
  dsimp only at h
  split at h
  · cases k with
    | zero => cases h
    | succ k =>
      unfold Ans.val at h
      rw [← laws_eqByteS.eq] at h
      exact answer_sound mixed Try.func53 _ _ _ (k + 1) (fun j _ => tab_sound (tab_nil)) _ _ h
  · exact (Ans.no_val h).elim

/-! loop.example/g00790/laws.eqVote -/
def laws_eqVote.b {R : Type} (ret : Bool → Option R) (k : Nat) (a0_0 : Int) (a0_1 : Int) (a0_2z : Bool) (a0_2 : List Int) (a0_3 : Int) (a0_4z : Bool) (a0_4 : List Int) (a1_0 : Int) (a1_1 : Int) (a1_2z : Bool) (a1_2 : List Int) (a1_3 : Int) (a1_4z : Bool) (a1_4 : List Int) : Option R :=
  cond (!(decide (a0_0 = a1_0))) (ret false) (cond (!(decide (a0_1 = a1_1))) (ret false) ((laws_eqByteS.f k a0_2z a0_2 a1_2z a1_2).bind fun t0 => cond (!t0) (ret false) (cond (!(decide (a0_3 = a1_3))) (ret false) ((laws_eqByteS.f k a0_4z a0_4 a1_4z a1_4).bind fun t1 => cond (!t1) (ret false) (ret true)))))
def laws_eqVote.f : Nat → Int → Int → Bool → (List Int) → Int → Bool → (List Int) → Int → Int → Bool → (List Int) → Int → Bool → (List Int) → Option Bool
  | 0, _, _, _, _, _, _, _, _, _, _, _, _, _, _ => none
  | k + 1, a0_0, a0_1, a0_2z, a0_2, a0_3, a0_4z, a0_4, a1_0, a1_1, a1_2z, a1_2, a1_3, a1_4z, a1_4 => laws_eqVote.b some k a0_0 a0_1 a0_2z a0_2 a0_3 a0_4z a0_4 a1_0 a1_1 a1_2z a1_2 a1_3 a1_4z a1_4
def laws_eqVote.enc (r : Bool) : Res := ⟨[.vals false [((.bool r), true)]], []⟩
def laws_eqVote.ans (k : Nat) : List Arg → Ans
  | [.v (.agg [(.int .i64 a0_0), (.int .i64 a0_1), (.nums 5 .u8 a0_2z a0_2), (.int .i64 a0_3), (.nums 5 .u8 a0_4z a0_4)]), .v (.agg [(.int .i64 a1_0), (.int .i64 a1_1), (.nums 5 .u8 a1_2z a1_2), (.int .i64 a1_3), (.nums 5 .u8 a1_4z a1_4)])] => ⟨laws_eqVote.f k a0_0 a0_1 a0_2z a0_2 a0_3 a0_4z a0_4 a1_0 a1_1 a1_2z a1_2 a1_3 a1_4z a1_4, laws_eqVote.enc⟩
  | _ => Ans.no
def laws_eqVote.Cs (k : Nat) : CallSem := tab [(53, laws_eqByteS.ans k)]
def laws_eqVote.cuts : List (Nat × Keep) := []
theorem laws_eqVote.s (k : Nat) (a0_0 : Int) (a0_1 : Int) (a0_2z : Bool) (a0_2 : List Int) (a0_3 : Int) (a0_4z : Bool) (a0_4 : List Int) (a1_0 : Int) (a1_1 : Int) (a1_2z : Bool) (a1_2 : List Int) (a1_3 : Int) (a1_4z : Bool) (a1_4 : List Int) : answer Try.prog laws_eqVote.Cs 100000 laws_eqVote.cuts [] Try.f52 (k + 1) [.v (.agg [(.int .i64 a0_0), (.int .i64 a0_1), (.nums 5 .u8 a0_2z a0_2), (.int .i64 a0_3), (.nums 5 .u8 a0_4z a0_4)]), .v (.agg [(.int .i64 a1_0), (.int .i64 a1_1), (.nums 5 .u8 a1_2z a1_2), (.int .i64 a1_3), (.nums 5 .u8 a1_4z a1_4)])] = laws_eqVote.b (fun r => some (laws_eqVote.enc r)) k a0_0 a0_1 a0_2z a0_2 a0_3 a0_4z a0_4 a1_0 a1_1 a1_2z a1_2 a1_3 a1_4z a1_4 := by kernel_rfl
theorem laws_eqVote.b_nat {R R' : Type} (e : R → R') (ret : Bool → Option R) (k : Nat) (a0_0 : Int) (a0_1 : Int) (a0_2z : Bool) (a0_2 : List Int) (a0_3 : Int) (a0_4z : Bool) (a0_4 : List Int) (a1_0 : Int) (a1_1 : Int) (a1_2z : Bool) (a1_2 : List Int) (a1_3 : Int) (a1_4z : Bool) (a1_4 : List Int) : laws_eqVote.b (fun r => (ret r).map e) k a0_0 a0_1 a0_2z a0_2 a0_3 a0_4z a0_4 a1_0 a1_1 a1_2z a1_2 a1_3 a1_4z a1_4 = (laws_eqVote.b ret k a0_0 a0_1 a0_2z a0_2 a0_3 a0_4z a0_4 a1_0 a1_1 a1_2z a1_2 a1_3 a1_4z a1_4).map e := by
  unfold laws_eqVote.b
  repeat' first | with_reducible refine nat_cond ?_ ?_ | with_reducible refine nat_bind fun _ => ?_ | rfl
theorem laws_eqVote.eq (k : Nat) (a0_0 : Int) (a0_1 : Int) (a0_2z : Bool) (a0_2 : List Int) (a0_3 : Int) (a0_4z : Bool) (a0_4 : List Int) (a1_0 : Int) (a1_1 : Int) (a1_2z : Bool) (a1_2 : List Int) (a1_3 : Int) (a1_4z : Bool) (a1_4 : List Int) : answer Try.prog laws_eqVote.Cs 100000 laws_eqVote.cuts [] Try.f52 (k + 1) [.v (.agg [(.int .i64 a0_0), (.int .i64 a0_1), (.nums 5 .u8 a0_2z a0_2), (.int .i64 a0_3), (.nums 5 .u8 a0_4z a0_4)]), .v (.agg [(.int .i64 a1_0), (.int .i64 a1_1), (.nums 5 .u8 a1_2z a1_2), (.int .i64 a1_3), (.nums 5 .u8 a1_4z a1_4)])] = (laws_eqVote.f (k + 1) a0_0 a0_1 a0_2z a0_2 a0_3 a0_4z a0_4 a1_0 a1_1 a1_2z a1_2 a1_3 a1_4z a1_4).map laws_eqVote.enc := by
  refine (laws_eqVote.s k a0_0 a0_1 a0_2z a0_2 a0_3 a0_4z a0_4 a1_0 a1_1 a1_2z a1_2 a1_3 a1_4z a1_4).trans (Eq.trans ?_ (laws_eqVote.b_nat laws_eqVote.enc some k a0_0 a0_1 a0_2z a0_2 a0_3 a0_4z a0_4 a1_0 a1_1 a1_2z a1_2 a1_3 a1_4z a1_4))
  simp only [Option.map_some]
theorem laws_eqVote.sound (k : Nat) : SoundF Try.prog 52 (fun a => (laws_eqVote.ans k a).val) := by
  refine sound_plain (fun args res h => ?_) (fun t n => rfl)
  unfold laws_eqVote.ans at h
  dsimp only at h
  split at h
  · cases k with
    | zero => cases h
    | succ k =>
      unfold Ans.val at h
      rw [← laws_eqVote.eq] at h
      exact answer_sound mixed Try.func52 _ _ _ (k + 1) (fun j _ => tab_sound (tab_cons (laws_eqByteS.sound j) (tab_nil))) _ _ h
  · exact (Ans.no_val h).elim

/-! loop.example/g00790/laws.eqRow -/
def laws_eqRow.b {R : Type} (ret : Bool → Option R) (k : Nat) (a0_0 : Int) (a0_1z : Bool) (a0_1 : List Int) (a1_0 : Int) (a1_1z : Bool) (a1_1 : List Int) : Option R :=
  cond (!(decide (a0_0 = a1_0))) (ret false) ((laws_eqByteS.f k a0_1z a0_1 a1_1z a1_1).bind fun t0 => cond (!t0) (ret false) (ret true))
def laws_eqRow.f : Nat → Int → Bool → (List Int) → Int → Bool → (List Int) → Option Bool
  | 0, _, _, _, _, _, _ => none
  | k + 1, a0_0, a0_1z, a0_1, a1_0, a1_1z, a1_1 => laws_eqRow.b some k a0_0 a0_1z a0_1 a1_0 a1_1z a1_1
def laws_eqRow.enc (r : Bool) : Res := ⟨[.vals false [((.bool r), true)]], []⟩
def laws_eqRow.ans (k : Nat) : List Arg → Ans
  | [.v (.agg [(.int .i64 a0_0), (.nums 5 .u8 a0_1z a0_1)]), .v (.agg [(.int .i64 a1_0), (.nums 5 .u8 a1_1z a1_1)])] => ⟨laws_eqRow.f k a0_0 a0_1z a0_1 a1_0 a1_1z a1_1, laws_eqRow.enc⟩
  | _ => Ans.no
def laws_eqRow.Cs (k : Nat) : CallSem := tab [(53, laws_eqByteS.ans k)]
def laws_eqRow.cuts : List (Nat × Keep) := []
theorem laws_eqRow.s (k : Nat) (a0_0 : Int) (a0_1z : Bool) (a0_1 : List Int) (a1_0 : Int) (a1_1z : Bool) (a1_1 : List Int) : answer Try.prog laws_eqRow.Cs 100000 laws_eqRow.cuts [] Try.f176 (k + 1) [.v (.agg [(.int .i64 a0_0), (.nums 5 .u8 a0_1z a0_1)]), .v (.agg [(.int .i64 a1_0), (.nums 5 .u8 a1_1z a1_1)])] = laws_eqRow.b (fun r => some (laws_eqRow.enc r)) k a0_0 a0_1z a0_1 a1_0 a1_1z a1_1 := by kernel_rfl
theorem laws_eqRow.b_nat {R R' : Type} (e : R → R') (ret : Bool → Option R) (k : Nat) (a0_0 : Int) (a0_1z : Bool) (a0_1 : List Int) (a1_0 : Int) (a1_1z : Bool) (a1_1 : List Int) : laws_eqRow.b (fun r => (ret r).map e) k a0_0 a0_1z a0_1 a1_0 a1_1z a1_1 = (laws_eqRow.b ret k a0_0 a0_1z a0_1 a1_0 a1_1z a1_1).map e := by
  unfold laws_eqRow.b
  repeat' first | with_reducible refine nat_cond ?_ ?_ | with_reducible refine nat_bind fun _ => ?_ | rfl
theorem laws_eqRow.eq (k : Nat) (a0_0 : Int) (a0_1z : Bool) (a0_1 : List Int) (a1_0 : Int) (a1_1z : Bool) (a1_1 : List Int) : answer Try.prog laws_eqRow.Cs 100000 laws_eqRow.cuts [] Try.f176 (k + 1) [.v (.agg [(.int .i64 a0_0), (.nums 5 .u8 a0_1z a0_1)]), .v (.agg [(.int .i64 a1_0), (.nums 5 .u8 a1_1z a1_1)])] = (laws_eqRow.f (k + 1) a0_0 a0_1z a0_1 a1_0 a1_1z a1_1).map laws_eqRow.enc := by
  refine (laws_eqRow.s k a0_0 a0_1z a0_1 a1_0 a1_1z a1_1).trans (Eq.trans ?_ (laws_eqRow.b_nat laws_eqRow.enc some k a0_0 a0_1z a0_1 a1_0 a1_1z a1_1))
  simp only [Option.map_some]
theorem laws_eqRow.sound (k : Nat) : SoundF Try.prog 176 (fun a => (laws_eqRow.ans k a).val) := by
  refine sound_plain (fun args res h => ?_) (fun t n => rfl)
  unfold laws_eqRow.ans at h
  dsimp only at h
  split at h
  · cases k with
    | zero => cases h
    | succ k =>
      unfold Ans.val at h
      rw [← laws_eqRow.eq] at h
      exact answer_sound mixed Try.func176 _ _ _ (k + 1) (fun j _ => tab_sound (tab_cons (laws_eqByteS.sound j) (tab_nil))) _ _ h
  · exact (Ans.no_val h).elim

/-! loop.example/g00790/laws.eqRowS -/
def laws_eqRowS.b {R : Type} (ret : Bool → Option R) (j0 : Bool → (List T) → Bool → (List T) → Int → Option R) (k : Nat) (a0z : Bool) (a0 : List T) (a1z : Bool) (a1 : List T) : Option R :=
  cond (!(decide (((a0).length : Int) = ((a1).length : Int)))) (ret false) (j0 a0z a0 a1z a1 0)
def laws_eqRowS.l0b {R : Type} (ret : Bool → Option R) (j0 : Bool → (List T) → Bool → (List T) → Int → Option R) (k : Nat) (x0z : Bool) (x0 : List T) (x1z : Bool) (x1 : List T) (x5 : Int) : Option R :=
  cond (decide (x5 < ((x0).length : Int))) (cond (decide ((0 : Int) ≤ x5)) (cond (decide (x5 < ((x0).length : Int))) (cond (decide ((0 : Int) ≤ x5)) (cond (decide (x5 < ((x1).length : Int))) ((laws_eqRow.f k (((((x0).getD (x5).toNat .bad).cells.getD 0 .bad)).toInt) (((((x0).getD (x5).toNat .bad).cells.getD 1 .bad)).isNil) (((((x0).getD (x5).toNat .bad).cells.getD 1 .bad)).toNums) (((((x1).getD (x5).toNat .bad).cells.getD 0 .bad)).toInt) (((((x1).getD (x5).toNat .bad).cells.getD 1 .bad)).isNil) (((((x1).getD (x5).toNat .bad).cells.getD 1 .bad)).toNums)).bind fun t0 => cond (!t0) (ret false) (j0 x0z x0 x1z x1 (RowKit.wrap64 (x5 + 1)))) (none)) (none)) (none)) (none)) (ret true)
def laws_eqRowS.l0 : Nat → Bool → (List T) → Bool → (List T) → Int → Option Bool
  | 0, _, _, _, _, _ => none
  | k + 1, x0z, x0, x1z, x1, x5 => laws_eqRowS.l0b some (laws_eqRowS.l0 k) k x0z x0 x1z x1 x5
def laws_eqRowS.f : Nat → Bool → (List T) → Bool → (List T) → Option Bool
  | 0, _, _, _, _ => none
  | k + 1, a0z, a0, a1z, a1 => laws_eqRowS.b some (laws_eqRowS.l0 k) k a0z a0 a1z a1
def laws_eqRowS.enc (r : Bool) : Res := ⟨[.vals false [((.bool r), true)]], []⟩
def laws_eqRowS.ans (k : Nat) : List Arg → Ans
  | [.v (.sl 160 a0z a0), .v (.sl 160 a1z a1)] => ⟨laws_eqRowS.f k a0z a0 a1z a1, laws_eqRowS.enc⟩
  | _ => Ans.no
def laws_eqRowS.Cs (k : Nat) : CallSem := tab [(176, laws_eqRow.ans k)]
def laws_eqRowS.cuts : List (Nat × Keep) := [(58, ⟨[(0, some []), (1, some []), (5, some [])], []⟩)]
noncomputable def laws_eqRowS.K0 : List Fr := framesAt [true, true, false, true, false] (bodyOf Try.f109 laws_eqRowS.cuts) []
def laws_eqRowS.N0 (x0z : Bool) (x0 : List T) (x1z : Bool) (x1 : List T) (x5 : Int) : St := stOf 27 27 2 [(0, .val ⟨(.sl 160 x0z x0), [], false, none⟩), (1, .val ⟨(.sl 160 x1z x1), [], false, none⟩), (5, .val (V.s (.int .i64 x5)))] []
theorem laws_eqRowS.s (k : Nat) (a0z : Bool) (a0 : List T) (a1z : Bool) (a1 : List T) : answer Try.prog laws_eqRowS.Cs 100000 laws_eqRowS.cuts [] Try.f109 (k + 1) [.v (.sl 160 a0z a0), .v (.sl 160 a1z a1)] = laws_eqRowS.b (fun r => some (laws_eqRowS.enc r)) (fun x0z x0 x1z x1 x5 => rounds Try.prog laws_eqRowS.Cs (finish Try.prog [] Try.f109 [.v (.sl 160 a0z a0), .v (.sl 160 a1z a1)]) 100000 k laws_eqRowS.K0 (laws_eqRowS.N0 x0z x0 x1z x1 x5)) k a0z a0 a1z a1 := by kernel_rfl
theorem laws_eqRowS.s0 (k : Nat) (G : List Fr → St → Option Res) (a0z : Bool) (a0 : List T) (a1z : Bool) (a1 : List T) (yx0z : Bool) (yx0 : List T) (yx1z : Bool) (yx1 : List T) (yx5 : Int) : resume Try.prog (laws_eqRowS.Cs k) G (finish Try.prog [] Try.f109 [.v (.sl 160 a0z a0), .v (.sl 160 a1z a1)]) 100000 laws_eqRowS.K0 (laws_eqRowS.N0 yx0z yx0 yx1z yx1 yx5) = laws_eqRowS.l0b (fun r => some (laws_eqRowS.enc r)) (fun x0z x0 x1z x1 x5 => G laws_eqRowS.K0 (laws_eqRowS.N0 x0z x0 x1z x1 x5)) k yx0z yx0 yx1z yx1 yx5 := by kernel_rfl
theorem laws_eqRowS.b_nat {R R' : Type} (e : R → R') (ret : Bool → Option R) (j0 : Bool → (List T) → Bool → (List T) → Int → Option R) (k : Nat) (a0z : Bool) (a0 : List T) (a1z : Bool) (a1 : List T) : laws_eqRowS.b (fun r => (ret r).map e) (fun x0z x0 x1z x1 x5 => (j0 x0z x0 x1z x1 x5).map e) k a0z a0 a1z a1 = (laws_eqRowS.b ret j0 k a0z a0 a1z a1).map e := by
  unfold laws_eqRowS.b
  repeat' first | with_reducible refine nat_cond ?_ ?_ | with_reducible refine nat_bind fun _ => ?_ | rfl
theorem laws_eqRowS.l0b_nat {R R' : Type} (e : R → R') (ret : Bool → Option R) (j0 : Bool → (List T) → Bool → (List T) → Int → Option R) (k : Nat) (x0z : Bool) (x0 : List T) (x1z : Bool) (x1 : List T) (x5 : Int) : laws_eqRowS.l0b (fun r => (ret r).map e) (fun x0z x0 x1z x1 x5 => (j0 x0z x0 x1z x1 x5).map e) k x0z x0 x1z x1 x5 = (laws_eqRowS.l0b ret j0 k x0z x0 x1z x1 x5).map e := by
  unfold laws_eqRowS.l0b
  repeat' first | with_reducible refine nat_cond ?_ ?_ | with_reducible refine nat_bind fun _ => ?_ | rfl
theorem laws_eqRowS.rounds_eq (a0z : Bool) (a0 : List T) (a1z : Bool) (a1 : List T) : ∀ k, (∀ (x0z : Bool) (x0 : List T) (x1z : Bool) (x1 : List T) (x5 : Int), rounds Try.prog laws_eqRowS.Cs (finish Try.prog [] Try.f109 [.v (.sl 160 a0z a0), .v (.sl 160 a1z a1)]) 100000 k laws_eqRowS.K0 (laws_eqRowS.N0 x0z x0 x1z x1 x5) = (laws_eqRowS.l0 k x0z x0 x1z x1 x5).map laws_eqRowS.enc)
  | 0 => fun _ _ _ _ _ => rfl
  | k + 1 => by
    have ih := laws_eqRowS.rounds_eq a0z a0 a1z a1 k
    refine fun _ _ _ _ _ => ?_
    · refine (laws_eqRowS.s0 k _ a0z a0 a1z a1 _ _ _ _ _).trans (Eq.trans ?_ (laws_eqRowS.l0b_nat laws_eqRowS.enc some (laws_eqRowS.l0 k) k _ _ _ _ _))
      simp only [ih, Option.map_some]
theorem laws_eqRowS.eq (k : Nat) (a0z : Bool) (a0 : List T) (a1z : Bool) (a1 : List T) : answer Try.prog laws_eqRowS.Cs 100000 laws_eqRowS.cuts [] Try.f109 (k + 1) [.v (.sl 160 a0z a0), .v (.sl 160 a1z a1)] = (laws_eqRowS.f (k + 1) a0z a0 a1z a1).map laws_eqRowS.enc := by
  have ih := laws_eqRowS.rounds_eq a0z a0 a1z a1 k
  refine (laws_eqRowS.s k a0z a0 a1z a1).trans (Eq.trans ?_ (laws_eqRowS.b_nat laws_eqRowS.enc some (laws_eqRowS.l0 k) k a0z a0 a1z a1))
  simp only [ih, Option.map_some]
theorem laws_eqRowS.sound (k : Nat) : SoundF Try.prog 109 (fun a => (laws_eqRowS.ans k a).val) := by
  refine sound_plain (fun args res h => ?_) (fun t n => rfl)
  unfold laws_eqRowS.ans at h
  dsimp only at h
  split at h
  · cases k with
    | zero => cases h
    | succ k =>
      unfold Ans.val at h
      rw [← laws_eqRowS.eq] at h
      exact answer_sound mixed Try.func109 _ _ _ (k + 1) (fun j _ => tab_sound (tab_cons (laws_eqRow.sound j) (tab_nil))) _ _ h
  · exact (Ans.no_val h).elim

/-! loop.example/g00790/laws.eqTable -/
def laws_eqTable.b {R : Type} (ret : Bool → Option R) (k : Nat) (a0_0z : Bool) (a0_0 : List T) (a1_0z : Bool) (a1_0 : List T) : Option R :=
  (laws_eqRowS.f k a0_0z a0_0 a1_0z a1_0).bind fun t0 => cond (!t0) (ret false) (ret true)
def laws_eqTable.f : Nat → Bool → (List T) → Bool → (List T) → Option Bool
  | 0, _, _, _, _ => none
  | k + 1, a0_0z, a0_0, a1_0z, a1_0 => laws_eqTable.b some k a0_0z a0_0 a1_0z a1_0
def laws_eqTable.enc (r : Bool) : Res := ⟨[.vals false [((.bool r), true)]], []⟩
def laws_eqTable.ans (k : Nat) : List Arg → Ans
  | [.v (.agg [(.sl 160 a0_0z a0_0)]), .v (.agg [(.sl 160 a1_0z a1_0)])] => ⟨laws_eqTable.f k a0_0z a0_0 a1_0z a1_0, laws_eqTable.enc⟩
  | _ => Ans.no
def laws_eqTable.Cs (k : Nat) : CallSem := tab [(109, laws_eqRowS.ans k)]
def laws_eqTable.cuts : List (Nat × Keep) := []
theorem laws_eqTable.s (k : Nat) (a0_0z : Bool) (a0_0 : List T) (a1_0z : Bool) (a1_0 : List T) : answer Try.prog laws_eqTable.Cs 100000 laws_eqTable.cuts [] Try.f36 (k + 1) [.v (.agg [(.sl 160 a0_0z a0_0)]), .v (.agg [(.sl 160 a1_0z a1_0)])] = laws_eqTable.b (fun r => some (laws_eqTable.enc r)) k a0_0z a0_0 a1_0z a1_0 := by kernel_rfl
theorem laws_eqTable.b_nat {R R' : Type} (e : R → R') (ret : Bool → Option R) (k : Nat) (a0_0z : Bool) (a0_0 : List T) (a1_0z : Bool) (a1_0 : List T) : laws_eqTable.b (fun r => (ret r).map e) k a0_0z a0_0 a1_0z a1_0 = (laws_eqTable.b ret k a0_0z a0_0 a1_0z a1_0).map e := by
  unfold laws_eqTable.b
  repeat' first | with_reducible refine nat_cond ?_ ?_ | with_reducible refine nat_bind fun _ => ?_ | rfl
theorem laws_eqTable.eq (k : Nat) (a0_0z : Bool) (a0_0 : List T) (a1_0z : Bool) (a1_0 : List T) : answer Try.prog laws_eqTable.Cs 100000 laws_eqTable.cuts [] Try.f36 (k + 1) [.v (.agg [(.sl 160 a0_0z a0_0)]), .v (.agg [(.sl 160 a1_0z a1_0)])] = (laws_eqTable.f (k + 1) a0_0z a0_0 a1_0z a1_0).map laws_eqTable.enc := by
  refine (laws_eqTable.s k a0_0z a0_0 a1_0z a1_0).trans (Eq.trans ?_ (laws_eqTable.b_nat laws_eqTable.enc some k a0_0z a0_0 a1_0z a1_0))
  simp only [Option.map_some]
theorem laws_eqTable.sound (k : Nat) : SoundF Try.prog 36 (fun a => (laws_eqTable.ans k a).val) := by
  refine sound_plain (fun args res h => ?_) (fun t n => rfl)
  unfold laws_eqTable.ans at h
  dsimp only at h
  split at h
  · cases k with
    | zero => cases h
    | succ k =>
      unfold Ans.val at h
      rw [← laws_eqTable.eq] at h
      exact answer_sound mixed Try.func36 _ _ _ (k + 1) (fun j _ => tab_sound (tab_cons (laws_eqRowS.sound j) (tab_nil))) _ _ h
  · exact (Ans.no_val h).elim

/-! loop.example/g00790/laws.markByteS -/
def laws_markByteS.b {R : Type} (ret : Int × Bool × List Int → Option R) (j0 : Bool → (List Int) → Int → Int → Option R) (k : Nat) (a0z : Bool) (a0 : List Int) (a1 : Int) : Option R :=
  j0 a0z a0 a1 0
def laws_markByteS.l0b {R : Type} (ret : Int × Bool × List Int → Option R) (j0 : Bool → (List Int) → Int → Int → Option R) (k : Nat) (x0z : Bool) (x0 : List Int) (x1 : Int) (x5 : Int) : Option R :=
  cond (decide (x5 < ((x0).length : Int))) (cond (decide ((0 : Int) ≤ x5)) (cond (decide (x5 < ((x0).length : Int))) (j0 x0z ((x0).set (x5).toNat ((x1) % 256)) (RowKit.wrap64 (x1 + 1)) (RowKit.wrap64 (x5 + 1))) (none)) (none)) (ret (x1, x0z, x0))
def laws_markByteS.l0 : Nat → Bool → (List Int) → Int → Int → Option (Int × Bool × List Int)
  | 0, _, _, _, _ => none
  | k + 1, x0z, x0, x1, x5 => laws_markByteS.l0b some (laws_markByteS.l0 k) k x0z x0 x1 x5
def laws_markByteS.f : Nat → Bool → (List Int) → Int → Option (Int × Bool × List Int)
  | 0, _, _, _ => none
  | k + 1, a0z, a0, a1 => laws_markByteS.b some (laws_markByteS.l0 k) k a0z a0 a1
def laws_markByteS.enc (r : Int × Bool × List Int) : Res := ⟨[.vals false [((.int .i64 r.1), true)]], [[((.nums 5 .u8 r.2.1 r.2.2), true)]]⟩
def laws_markByteS.ans (k : Nat) : List Arg → Ans
  | [.own (.nums 5 .u8 a0z a0), .v (.int .i64 a1)] => ⟨laws_markByteS.f k a0z a0 a1, laws_markByteS.enc⟩
  | _ => Ans.no
def laws_markByteS.Cs (k : Nat) : CallSem := tab []
def laws_markByteS.cuts : List (Nat × Keep) := [(26, ⟨[(0, none), (1, some []), (5, some [])], []⟩)]
noncomputable def laws_markByteS.K0 : List Fr := framesAt [true, false, true, false] (bodyOf Try.f54 laws_markByteS.cuts) []
def laws_markByteS.N0 (x0z : Bool) (x0 : List Int) (x1 : Int) (x5 : Int) : St := stOf 20 20 2 [(0, .val ⟨(.nums 5 .u8 x0z x0), [.h 0], true, some (.h 0)⟩), (1, .val (V.s (.int .i64 x1))), (5, .val (V.s (.int .i64 x5)))] []
theorem laws_markByteS.s (k : Nat) (a0z : Bool) (a0 : List Int) (a1 : Int) : answerM Try.prog laws_markByteS.Cs 100000 laws_markByteS.cuts Try.f54 (k + 1) [.own (.nums 5 .u8 a0z a0), .v (.int .i64 a1)] = laws_markByteS.b (fun r => some (laws_markByteS.enc r)) (fun x0z x0 x1 x5 => rounds Try.prog laws_markByteS.Cs (finishM Try.prog Try.f54 (.nums 5 .u8 a0z a0)) 100000 k laws_markByteS.K0 (laws_markByteS.N0 x0z x0 x1 x5)) k a0z a0 a1 := by kernel_rfl
theorem laws_markByteS.s0 (k : Nat) (G : List Fr → St → Option Res) (a0z : Bool) (a0 : List Int) (a1 : Int) (yx0z : Bool) (yx0 : List Int) (yx1 : Int) (yx5 : Int) : resume Try.prog (laws_markByteS.Cs k) G (finishM Try.prog Try.f54 (.nums 5 .u8 a0z a0)) 100000 laws_markByteS.K0 (laws_markByteS.N0 yx0z yx0 yx1 yx5) = laws_markByteS.l0b (fun r => some (laws_markByteS.enc r)) (fun x0z x0 x1 x5 => G laws_markByteS.K0 (laws_markByteS.N0 x0z x0 x1 x5)) k yx0z yx0 yx1 yx5 := by kernel_rfl
theorem laws_markByteS.b_nat {R R' : Type} (e : R → R') (ret : Int × Bool × List Int → Option R) (j0 : Bool → (List Int) → Int → Int → Option R) (k : Nat) (a0z : Bool) (a0 : List Int) (a1 : Int) : laws_markByteS.b (fun r => (ret r).map e) (fun x0z x0 x1 x5 => (j0 x0z x0 x1 x5).map e) k a0z a0 a1 = (laws_markByteS.b ret j0 k a0z a0 a1).map e := by
  unfold laws_markByteS.b
  repeat' first | with_reducible refine nat_cond ?_ ?_ | with_reducible refine nat_bind fun _ => ?_ | rfl
theorem laws_markByteS.l0b_nat {R R' : Type} (e : R → R') (ret : Int × Bool × List Int → Option R) (j0 : Bool → (List Int) → Int → Int → Option R) (k : Nat) (x0z : Bool) (x0 : List Int) (x1 : Int) (x5 : Int) : laws_markByteS.l0b (fun r => (ret r).map e) (fun x0z x0 x1 x5 => (j0 x0z x0 x1 x5).map e) k x0z x0 x1 x5 = (laws_markByteS.l0b ret j0 k x0z x0 x1 x5).map e := by
  unfold laws_markByteS.l0b
  repeat' first | with_reducible refine nat_cond ?_ ?_ | with_reducible refine nat_bind fun _ => ?_ | rfl
theorem laws_markByteS.rounds_eq (a0z : Bool) (a0 : List Int) (a1 : Int) : ∀ k, (∀ (x0z : Bool) (x0 : List Int) (x1 : Int) (x5 : Int), rounds Try.prog laws_markByteS.Cs (finishM Try.prog Try.f54 (.nums 5 .u8 a0z a0)) 100000 k laws_markByteS.K0 (laws_markByteS.N0 x0z x0 x1 x5) = (laws_markByteS.l0 k x0z x0 x1 x5).map laws_markByteS.enc)
  | 0 => fun _ _ _ _ => rfl
  | k + 1 => by
    have ih := laws_markByteS.rounds_eq a0z a0 a1 k
    refine fun _ _ _ _ => ?_
    · refine (laws_markByteS.s0 k _ a0z a0 a1 _ _ _ _).trans (Eq.trans ?_ (laws_markByteS.l0b_nat laws_markByteS.enc some (laws_markByteS.l0 k) k _ _ _ _))
      simp only [ih, Option.map_some]
theorem laws_markByteS.eq (k : Nat) (a0z : Bool) (a0 : List Int) (a1 : Int) : answerM Try.prog laws_markByteS.Cs 100000 laws_markByteS.cuts Try.f54 (k + 1) [.own (.nums 5 .u8 a0z a0), .v (.int .i64 a1)] = (laws_markByteS.f (k + 1) a0z a0 a1).map laws_markByteS.enc := by
  have ih := laws_markByteS.rounds_eq a0z a0 a1 k
  refine (laws_markByteS.s k a0z a0 a1).trans (Eq.trans ?_ (laws_markByteS.b_nat laws_markByteS.enc some (laws_markByteS.l0 k) k a0z a0 a1))
  simp only [ih, Option.map_some]
theorem laws_markByteS.sound (k : Nat) : SoundF Try.prog 54 (fun a => (laws_markByteS.ans k a).val) := by
  refine sound_mark (fun args hne => ?_) (fun t n l m h => ?_)
  · unfold laws_markByteS.ans
    split
    · exact (hne _ _ rfl).elim
    · rfl
  unfold laws_markByteS.ans at h
  dsimp only at h
  split at h
  · rename_i heq
    cases heq
    cases k with
    | zero => cases h
    | succ k =>
      unfold Ans.val at h
      rw [← laws_markByteS.eq] at h
      exact answerM_sound (Cs := laws_markByteS.Cs) mixed Try.func54 100000 laws_markByteS.cuts (k + 1) (fun j _ => tab_sound (tab_nil)) _ _ _ _ h
  · exact (Ans.no_val h).elim

/-! loop.example/g00790/laws.markRowS -/
def laws_markRowS.b {R : Type} (ret : Int × Bool × List T → Option R) (j0 : Bool → (List T) → Int → Int → Option R) (k : Nat) (a0z : Bool) (a0 : List T) (a1 : Int) : Option R :=
  j0 a0z a0 a1 0
def laws_markRowS.l0b {R : Type} (ret : Int × Bool × List T → Option R) (j0 : Bool → (List T) → Int → Int → Option R) (k : Nat) (x0z : Bool) (x0 : List T) (x1 : Int) (x5 : Int) : Option R :=
  cond (decide (x5 < ((x0).length : Int))) (cond (decide ((0 : Int) ≤ x5)) (cond (decide (x5 < ((x0).length : Int))) (cond (decide ((0 : Int) ≤ x5)) (cond (decide (x5 < ((((x0).set (x5).toNat (.agg [(.int .i64 x1), (.nums 5 .u8 ((((x0).getD (x5).toNat .bad).cells.getD 1 .bad)).isNil ((((x0).getD (x5).toNat .bad).cells.getD 1 .bad)).toNums)]))).length : Int))) ((laws_markByteS.f k (((((((x0).set (x5).toNat (.agg [(.int .i64 x1), (.nums 5 .u8 ((((x0).getD (x5).toNat .bad).cells.getD 1 .bad)).isNil ((((x0).getD (x5).toNat .bad).cells.getD 1 .bad)).toNums)]))).getD (x5).toNat .bad).cells.getD 1 .bad)).isNil) (((((((x0).set (x5).toNat (.agg [(.int .i64 x1), (.nums 5 .u8 ((((x0).getD (x5).toNat .bad).cells.getD 1 .bad)).isNil ((((x0).getD (x5).toNat .bad).cells.getD 1 .bad)).toNums)]))).getD (x5).toNat .bad).cells.getD 1 .bad)).toNums) (RowKit.wrap64 (x1 + 1))).bind fun t0 => j0 x0z ((((x0).set (x5).toNat (.agg [(.int .i64 x1), (.nums 5 .u8 ((((x0).getD (x5).toNat .bad).cells.getD 1 .bad)).isNil ((((x0).getD (x5).toNat .bad).cells.getD 1 .bad)).toNums)]))).set (x5).toNat (.agg [(.int .i64 ((((((x0).set (x5).toNat (.agg [(.int .i64 x1), (.nums 5 .u8 ((((x0).getD (x5).toNat .bad).cells.getD 1 .bad)).isNil ((((x0).getD (x5).toNat .bad).cells.getD 1 .bad)).toNums)]))).getD (x5).toNat .bad).cells.getD 0 .bad)).toInt), (.nums 5 .u8 t0.2.1 t0.2.2)])) t0.1 (RowKit.wrap64 (x5 + 1))) (none)) (none)) (none)) (none)) (ret (x1, x0z, x0))
def laws_markRowS.l0 : Nat → Bool → (List T) → Int → Int → Option (Int × Bool × List T)
  | 0, _, _, _, _ => none
  | k + 1, x0z, x0, x1, x5 => laws_markRowS.l0b some (laws_markRowS.l0 k) k x0z x0 x1 x5
def laws_markRowS.f : Nat → Bool → (List T) → Int → Option (Int × Bool × List T)
  | 0, _, _, _ => none
  | k + 1, a0z, a0, a1 => laws_markRowS.b some (laws_markRowS.l0 k) k a0z a0 a1
def laws_markRowS.enc (r : Int × Bool × List T) : Res := ⟨[.vals false [((.int .i64 r.1), true)]], [[((.sl 160 r.2.1 r.2.2), true)]]⟩
def laws_markRowS.ans (k : Nat) : List Arg → Ans
  | [.own (.sl 160 a0z a0), .v (.int .i64 a1)] => ⟨laws_markRowS.f k a0z a0 a1, laws_markRowS.enc⟩
  | _ => Ans.no
def laws_markRowS.Cs (k : Nat) : CallSem := tab [(54, laws_markByteS.ans k)]
def laws_markRowS.cuts : List (Nat × Keep) := [(26, ⟨[(0, none), (1, some []), (5, some [])], []⟩)]
noncomputable def laws_markRowS.K0 : List Fr := framesAt [true, false, true, false] (bodyOf Try.f128 laws_markRowS.cuts) []
def laws_markRowS.N0 (x0z : Bool) (x0 : List T) (x1 : Int) (x5 : Int) : St := stOf 27 27 2 [(0, .val ⟨(.sl 160 x0z x0), [.h 0], true, some (.h 0)⟩), (1, .val (V.s (.int .i64 x1))), (5, .val (V.s (.int .i64 x5)))] []
theorem laws_markRowS.s (k : Nat) (a0z : Bool) (a0 : List T) (a1 : Int) : answerM Try.prog laws_markRowS.Cs 100000 laws_markRowS.cuts Try.f128 (k + 1) [.own (.sl 160 a0z a0), .v (.int .i64 a1)] = laws_markRowS.b (fun r => some (laws_markRowS.enc r)) (fun x0z x0 x1 x5 => rounds Try.prog laws_markRowS.Cs (finishM Try.prog Try.f128 (.sl 160 a0z a0)) 100000 k laws_markRowS.K0 (laws_markRowS.N0 x0z x0 x1 x5)) k a0z a0 a1 := by kernel_rfl
theorem laws_markRowS.s0 (k : Nat) (G : List Fr → St → Option Res) (a0z : Bool) (a0 : List T) (a1 : Int) (yx0z : Bool) (yx0 : List T) (yx1 : Int) (yx5 : Int) : resume Try.prog (laws_markRowS.Cs k) G (finishM Try.prog Try.f128 (.sl 160 a0z a0)) 100000 laws_markRowS.K0 (laws_markRowS.N0 yx0z yx0 yx1 yx5) = laws_markRowS.l0b (fun r => some (laws_markRowS.enc r)) (fun x0z x0 x1 x5 => G laws_markRowS.K0 (laws_markRowS.N0 x0z x0 x1 x5)) k yx0z yx0 yx1 yx5 := by kernel_rfl
theorem laws_markRowS.b_nat {R R' : Type} (e : R → R') (ret : Int × Bool × List T → Option R) (j0 : Bool → (List T) → Int → Int → Option R) (k : Nat) (a0z : Bool) (a0 : List T) (a1 : Int) : laws_markRowS.b (fun r => (ret r).map e) (fun x0z x0 x1 x5 => (j0 x0z x0 x1 x5).map e) k a0z a0 a1 = (laws_markRowS.b ret j0 k a0z a0 a1).map e := by
  unfold laws_markRowS.b
  repeat' first | with_reducible refine nat_cond ?_ ?_ | with_reducible refine nat_bind fun _ => ?_ | rfl
theorem laws_markRowS.l0b_nat {R R' : Type} (e : R → R') (ret : Int × Bool × List T → Option R) (j0 : Bool → (List T) → Int → Int → Option R) (k : Nat) (x0z : Bool) (x0 : List T) (x1 : Int) (x5 : Int) : laws_markRowS.l0b (fun r => (ret r).map e) (fun x0z x0 x1 x5 => (j0 x0z x0 x1 x5).map e) k x0z x0 x1 x5 = (laws_markRowS.l0b ret j0 k x0z x0 x1 x5).map e := by
  unfold laws_markRowS.l0b
  repeat' first | with_reducible refine nat_cond ?_ ?_ | with_reducible refine nat_bind fun _ => ?_ | rfl
theorem laws_markRowS.rounds_eq (a0z : Bool) (a0 : List T) (a1 : Int) : ∀ k, (∀ (x0z : Bool) (x0 : List T) (x1 : Int) (x5 : Int), rounds Try.prog laws_markRowS.Cs (finishM Try.prog Try.f128 (.sl 160 a0z a0)) 100000 k laws_markRowS.K0 (laws_markRowS.N0 x0z x0 x1 x5) = (laws_markRowS.l0 k x0z x0 x1 x5).map laws_markRowS.enc)
  | 0 => fun _ _ _ _ => rfl
  | k + 1 => by
    have ih := laws_markRowS.rounds_eq a0z a0 a1 k
    refine fun _ _ _ _ => ?_
    · refine (laws_markRowS.s0 k _ a0z a0 a1 _ _ _ _).trans (Eq.trans ?_ (laws_markRowS.l0b_nat laws_markRowS.enc some (laws_markRowS.l0 k) k _ _ _ _))
      simp only [ih, Option.map_some]
theorem laws_markRowS.eq (k : Nat) (a0z : Bool) (a0 : List T) (a1 : Int) : answerM Try.prog laws_markRowS.Cs 100000 laws_markRowS.cuts Try.f128 (k + 1) [.own (.sl 160 a0z a0), .v (.int .i64 a1)] = (laws_markRowS.f (k + 1) a0z a0 a1).map laws_markRowS.enc := by
  have ih := laws_markRowS.rounds_eq a0z a0 a1 k
  refine (laws_markRowS.s k a0z a0 a1).trans (Eq.trans ?_ (laws_markRowS.b_nat laws_markRowS.enc some (laws_markRowS.l0 k) k a0z a0 a1))
  simp only [ih, Option.map_some]
theorem laws_markRowS.sound (k : Nat) : SoundF Try.prog 128 (fun a => (laws_markRowS.ans k a).val) := by
  refine sound_mark (fun args hne => ?_) (fun t n l m h => ?_)
  · unfold laws_markRowS.ans
    split
    · exact (hne _ _ rfl).elim
    · rfl
  unfold laws_markRowS.ans at h
  dsimp only at h
  split at h
  · rename_i heq
    cases heq
    cases k with
    | zero => cases h
    | succ k =>
      unfold Ans.val at h
      rw [← laws_markRowS.eq] at h
      exact answerM_sound (Cs := laws_markRowS.Cs) mixed Try.func128 100000 laws_markRowS.cuts (k + 1) (fun j _ => tab_sound (tab_cons (laws_markByteS.sound j) (tab_nil))) _ _ _ _ h
  · exact (Ans.no_val h).elim

/-! loop.example/g00790/laws.markTable -/
def laws_markTable.b {R : Type} (ret : Int × Bool × List T → Option R) (k : Nat) (a0_0z : Bool) (a0_0 : List T) (a1 : Int) : Option R :=
  (laws_markRowS.f k a0_0z a0_0 a1).bind fun t0 => ret (t0.1, t0.2.1, t0.2.2)
def laws_markTable.f : Nat → Bool → (List T) → Int → Option (Int × Bool × List T)
  | 0, _, _, _ => none
  | k + 1, a0_0z, a0_0, a1 => laws_markTable.b some k a0_0z a0_0 a1
def laws_markTable.enc (r : Int × Bool × List T) : Res := ⟨[.vals false [((.int .i64 r.1), true)]], [[((.sl 160 r.2.1 r.2.2), true)]]⟩
def laws_markTable.ans (k : Nat) : List Arg → Ans
  | [.own (.agg [(.sl 160 a0_0z a0_0)]), .v (.int .i64 a1)] => ⟨laws_markTable.f k a0_0z a0_0 a1, laws_markTable.enc⟩
  | _ => Ans.no
def laws_markTable.Cs (k : Nat) : CallSem := tab [(128, laws_markRowS.ans k)]
def laws_markTable.cuts : List (Nat × Keep) := []
theorem laws_markTable.s (k : Nat) (a0_0z : Bool) (a0_0 : List T) (a1 : Int) : answerM Try.prog laws_markTable.Cs 100000 laws_markTable.cuts Try.f46 (k + 1) [.own (.agg [(.sl 160 a0_0z a0_0)]), .v (.int .i64 a1)] = laws_markTable.b (fun r => some (laws_markTable.enc r)) k a0_0z a0_0 a1 := by kernel_rfl
theorem laws_markTable.b_nat {R R' : Type} (e : R → R') (ret : Int × Bool × List T → Option R) (k : Nat) (a0_0z : Bool) (a0_0 : List T) (a1 : Int) : laws_markTable.b (fun r => (ret r).map e) k a0_0z a0_0 a1 = (laws_markTable.b ret k a0_0z a0_0 a1).map e := by
  unfold laws_markTable.b
  repeat' first | with_reducible refine nat_cond ?_ ?_ | with_reducible refine nat_bind fun _ => ?_ | rfl
theorem laws_markTable.eq (k : Nat) (a0_0z : Bool) (a0_0 : List T) (a1 : Int) : answerM Try.prog laws_markTable.Cs 100000 laws_markTable.cuts Try.f46 (k + 1) [.own (.agg [(.sl 160 a0_0z a0_0)]), .v (.int .i64 a1)] = (laws_markTable.f (k + 1) a0_0z a0_0 a1).map laws_markTable.enc := by
  refine (laws_markTable.s k a0_0z a0_0 a1).trans (Eq.trans ?_ (laws_markTable.b_nat laws_markTable.enc some k a0_0z a0_0 a1))
  simp only [Option.map_some]
theorem laws_markTable.sound (k : Nat) : SoundF Try.prog 46 (fun a => (laws_markTable.ans k a).val) := by
  refine sound_mark (fun args hne => ?_) (fun t n l m h => ?_)
  · unfold laws_markTable.ans
    split
    · exact (hne _ _ rfl).elim
    · rfl
  unfold laws_markTable.ans at h
  dsimp only at h
  split at h
  · rename_i heq
    cases heq
    cases k with
    | zero => cases h
    | succ k =>
      unfold Ans.val at h
      rw [← laws_markTable.eq] at h
      exact answerM_sound (Cs := laws_markTable.Cs) mixed Try.func46 100000 laws_markTable.cuts (k + 1) (fun j _ => tab_sound (tab_cons (laws_markRowS.sound j) (tab_nil))) _ _ _ _ h
  · exact (Ans.no_val h).elim

/-! loop.example/g00790/laws.markVote -/
def laws_markVote.b {R : Type} (ret : Int × Int × Int × Bool × (List Int) × Int × Bool × List Int → Option R) (k : Nat) (a0_0 : Int) (a0_1 : Int) (a0_2z : Bool) (a0_2 : List Int) (a0_3 : Int) (a0_4z : Bool) (a0_4 : List Int) (a1 : Int) : Option R :=
  (laws_markByteS.f k a0_2z a0_2 a1).bind fun t0 => (laws_markByteS.f k a0_4z a0_4 t0.1).bind fun t1 => ret (t1.1, a0_0, a0_1, t0.2.1, t0.2.2, a0_3, t1.2.1, t1.2.2)
def laws_markVote.f : Nat → Int → Int → Bool → (List Int) → Int → Bool → (List Int) → Int → Option (Int × Int × Int × Bool × (List Int) × Int × Bool × List Int)
  | 0, _, _, _, _, _, _, _, _ => none
  | k + 1, a0_0, a0_1, a0_2z, a0_2, a0_3, a0_4z, a0_4, a1 => laws_markVote.b some k a0_0 a0_1 a0_2z a0_2 a0_3 a0_4z a0_4 a1
def laws_markVote.enc (r : Int × Int × Int × Bool × (List Int) × Int × Bool × List Int) : Res := ⟨[.vals false [((.int .i64 r.1), true)]], [[((.int .i64 r.2.1), true), ((.int .i64 r.2.2.1), true), ((.nums 5 .u8 r.2.2.2.1 r.2.2.2.2.1), true), ((.int .i64 r.2.2.2.2.2.1), true), ((.nums 5 .u8 r.2.2.2.2.2.2.1 r.2.2.2.2.2.2.2), true)]]⟩
def laws_markVote.ans (k : Nat) : List Arg → Ans
  | [.own (.agg [(.int .i64 a0_0), (.int .i64 a0_1), (.nums 5 .u8 a0_2z a0_2), (.int .i64 a0_3), (.nums 5 .u8 a0_4z a0_4)]), .v (.int .i64 a1)] => ⟨laws_markVote.f k a0_0 a0_1 a0_2z a0_2 a0_3 a0_4z a0_4 a1, laws_markVote.enc⟩
  | _ => Ans.no
def laws_markVote.Cs (k : Nat) : CallSem := tab [(54, laws_markByteS.ans k)]
def laws_markVote.cuts : List (Nat × Keep) := []
theorem laws_markVote.s (k : Nat) (a0_0 : Int) (a0_1 : Int) (a0_2z : Bool) (a0_2 : List Int) (a0_3 : Int) (a0_4z : Bool) (a0_4 : List Int) (a1 : Int) : answerM Try.prog laws_markVote.Cs 100000 laws_markVote.cuts Try.f55 (k + 1) [.own (.agg [(.int .i64 a0_0), (.int .i64 a0_1), (.nums 5 .u8 a0_2z a0_2), (.int .i64 a0_3), (.nums 5 .u8 a0_4z a0_4)]), .v (.int .i64 a1)] = laws_markVote.b (fun r => some (laws_markVote.enc r)) k a0_0 a0_1 a0_2z a0_2 a0_3 a0_4z a0_4 a1 := by kernel_rfl
theorem laws_markVote.b_nat {R R' : Type} (e : R → R') (ret : Int × Int × Int × Bool × (List Int) × Int × Bool × List Int → Option R) (k : Nat) (a0_0 : Int) (a0_1 : Int) (a0_2z : Bool) (a0_2 : List Int) (a0_3 : Int) (a0_4z : Bool) (a0_4 : List Int) (a1 : Int) : laws_markVote.b (fun r => (ret r).map e) k a0_0 a0_1 a0_2z a0_2 a0_3 a0_4z a0_4 a1 = (laws_markVote.b ret k a0_0 a0_1 a0_2z a0_2 a0_3 a0_4z a0_4 a1).map e := by
  unfold laws_markVote.b
  repeat' first | with_reducible refine nat_cond ?_ ?_ | with_reducible refine nat_bind fun _ => ?_ | rfl
theorem laws_markVote.eq (k : Nat) (a0_0 : Int) (a0_1 : Int) (a0_2z : Bool) (a0_2 : List Int) (a0_3 : Int) (a0_4z : Bool) (a0_4 : List Int) (a1 : Int) : answerM Try.prog laws_markVote.Cs 100000 laws_markVote.cuts Try.f55 (k + 1) [.own (.agg [(.int .i64 a0_0), (.int .i64 a0_1), (.nums 5 .u8 a0_2z a0_2), (.int .i64 a0_3), (.nums 5 .u8 a0_4z a0_4)]), .v (.int .i64 a1)] = (laws_markVote.f (k + 1) a0_0 a0_1 a0_2z a0_2 a0_3 a0_4z a0_4 a1).map laws_markVote.enc := by
  refine (laws_markVote.s k a0_0 a0_1 a0_2z a0_2 a0_3 a0_4z a0_4 a1).trans (Eq.trans ?_ (laws_markVote.b_nat laws_markVote.enc some k a0_0 a0_1 a0_2z a0_2 a0_3 a0_4z a0_4 a1))
  simp only [Option.map_some]
theorem laws_markVote.sound (k : Nat) : SoundF Try.prog 55 (fun a => (laws_markVote.ans k a).val) := by
  refine sound_mark (fun args hne => ?_) (fun t n l m h => ?_)
  · unfold laws_markVote.ans
    split
    · exact (hne _ _ rfl).elim
    · rfl
  unfold laws_markVote.ans at h
  dsimp only at h
  split at h
  · rename_i heq
    cases heq
    cases k with
    | zero => cases h
    | succ k =>
      unfold Ans.val at h
      rw [← laws_markVote.eq] at h
      exact answerM_sound (Cs := laws_markVote.Cs) mixed Try.func55 100000 laws_markVote.cuts (k + 1) (fun j _ => tab_sound (tab_cons (laws_markByteS.sound j) (tab_nil))) _ _ _ _ h
  · exact (Ans.no_val h).elim

/-! loop.example/g00790/laws.heldByteS -/
def laws_heldByteS.b {R : Type} (ret : Int → Option R) (j0 : Bool → (List Int) → Int → Int → Option R) (k : Nat) (a0z : Bool) (a0 : List Int) (a1 : Int) : Option R :=
  j0 a0z a0 a1 0
def laws_heldByteS.l0b {R : Type} (ret : Int → Option R) (j0 : Bool → (List Int) → Int → Int → Option R) (k : Nat) (x0z : Bool) (x0 : List Int) (x1 : Int) (x5 : Int) : Option R :=
  cond (decide (x5 < ((x0).length : Int))) (cond (decide ((0 : Int) ≤ x5)) (cond (decide (x5 < ((x0).length : Int))) (cond (!(decide ((rdI x0 x5) = ((x1) % 256)))) (ret (-1)) (j0 x0z x0 (RowKit.wrap64 (x1 + 1)) (RowKit.wrap64 (x5 + 1)))) (none)) (none)) (ret x1)
def laws_heldByteS.l0 : Nat → Bool → (List Int) → Int → Int → Option Int
  | 0, _, _, _, _ => none
  | k + 1, x0z, x0, x1, x5 => laws_heldByteS.l0b some (laws_heldByteS.l0 k) k x0z x0 x1 x5
def laws_heldByteS.f : Nat → Bool → (List Int) → Int → Option Int
  | 0, _, _, _ => none
  | k + 1, a0z, a0, a1 => laws_heldByteS.b some (laws_heldByteS.l0 k) k a0z a0 a1
def laws_heldByteS.enc (r : Int) : Res := ⟨[.vals false [((.int .i64 r), true)]], []⟩
def laws_heldByteS.ans (k : Nat) : List Arg → Ans
  | [.v (.nums 5 .u8 a0z a0), .v (.int .i64 a1)] => ⟨laws_heldByteS.f k a0z a0 a1, laws_heldByteS.enc⟩
  | _ => Ans.no
def laws_heldByteS.Cs (k : Nat) : CallSem := tab []
def laws_heldByteS.cuts : List (Nat × Keep) := [(26, ⟨[(0, some []), (1, some []), (5, some [])], []⟩)]
noncomputable def laws_heldByteS.K0 : List Fr := framesAt [true, false, true, false] (bodyOf Try.f59 laws_heldByteS.cuts) []
def laws_heldByteS.N0 (x0z : Bool) (x0 : List Int) (x1 : Int) (x5 : Int) : St := stOf 22 22 2 [(0, .val ⟨(.nums 5 .u8 x0z x0), [], false, none⟩), (1, .val (V.s (.int .i64 x1))), (5, .val (V.s (.int .i64 x5)))] []
theorem laws_heldByteS.s (k : Nat) (a0z : Bool) (a0 : List Int) (a1 : Int) : answer Try.prog laws_heldByteS.Cs 100000 laws_heldByteS.cuts [] Try.f59 (k + 1) [.v (.nums 5 .u8 a0z a0), .v (.int .i64 a1)] = laws_heldByteS.b (fun r => some (laws_heldByteS.enc r)) (fun x0z x0 x1 x5 => rounds Try.prog laws_heldByteS.Cs (finish Try.prog [] Try.f59 [.v (.nums 5 .u8 a0z a0), .v (.int .i64 a1)]) 100000 k laws_heldByteS.K0 (laws_heldByteS.N0 x0z x0 x1 x5)) k a0z a0 a1 := by kernel_rfl
theorem laws_heldByteS.s0 (k : Nat) (G : List Fr → St → Option Res) (a0z : Bool) (a0 : List Int) (a1 : Int) (yx0z : Bool) (yx0 : List Int) (yx1 : Int) (yx5 : Int) : resume Try.prog (laws_heldByteS.Cs k) G (finish Try.prog [] Try.f59 [.v (.nums 5 .u8 a0z a0), .v (.int .i64 a1)]) 100000 laws_heldByteS.K0 (laws_heldByteS.N0 yx0z yx0 yx1 yx5) = laws_heldByteS.l0b (fun r => some (laws_heldByteS.enc r)) (fun x0z x0 x1 x5 => G laws_heldByteS.K0 (laws_heldByteS.N0 x0z x0 x1 x5)) k yx0z yx0 yx1 yx5 := by kernel_rfl
theorem laws_heldByteS.b_nat {R R' : Type} (e : R → R') (ret : Int → Option R) (j0 : Bool → (List Int) → Int → Int → Option R) (k : Nat) (a0z : Bool) (a0 : List Int) (a1 : Int) : laws_heldByteS.b (fun r => (ret r).map e) (fun x0z x0 x1 x5 => (j0 x0z x0 x1 x5).map e) k a0z a0 a1 = (laws_heldByteS.b ret j0 k a0z a0 a1).map e := by
  unfold laws_heldByteS.b
  repeat' first | with_reducible refine nat_cond ?_ ?_ | with_reducible refine nat_bind fun _ => ?_ | rfl
theorem laws_heldByteS.l0b_nat {R R' : Type} (e : R → R') (ret : Int → Option R) (j0 : Bool → (List Int) → Int → Int → Option R) (k : Nat) (x0z : Bool) (x0 : List Int) (x1 : Int) (x5 : Int) : laws_heldByteS.l0b (fun r => (ret r).map e) (fun x0z x0 x1 x5 => (j0 x0z x0 x1 x5).map e) k x0z x0 x1 x5 = (laws_heldByteS.l0b ret j0 k x0z x0 x1 x5).map e := by
  unfold laws_heldByteS.l0b
  repeat' first | with_reducible refine nat_cond ?_ ?_ | with_reducible refine nat_bind fun _ => ?_ | rfl
theorem laws_heldByteS.rounds_eq (a0z : Bool) (a0 : List Int) (a1 : Int) : ∀ k, (∀ (x0z : Bool) (x0 : List Int) (x1 : Int) (x5 : Int), rounds Try.prog laws_heldByteS.Cs (finish Try.prog [] Try.f59 [.v (.nums 5 .u8 a0z a0), .v (.int .i64 a1)]) 100000 k laws_heldByteS.K0 (laws_heldByteS.N0 x0z x0 x1 x5) = (laws_heldByteS.l0 k x0z x0 x1 x5).map laws_heldByteS.enc)
  | 0 => fun _ _ _ _ => rfl
  | k + 1 => by
    have ih := laws_heldByteS.rounds_eq a0z a0 a1 k
    refine fun _ _ _ _ => ?_
    · refine (laws_heldByteS.s0 k _ a0z a0 a1 _ _ _ _).trans (Eq.trans ?_ (laws_heldByteS.l0b_nat laws_heldByteS.enc some (laws_heldByteS.l0 k) k _ _ _ _))
      simp only [ih, Option.map_some]
theorem laws_heldByteS.eq (k : Nat) (a0z : Bool) (a0 : List Int) (a1 : Int) : answer Try.prog laws_heldByteS.Cs 100000 laws_heldByteS.cuts [] Try.f59 (k + 1) [.v (.nums 5 .u8 a0z a0), .v (.int .i64 a1)] = (laws_heldByteS.f (k + 1) a0z a0 a1).map laws_heldByteS.enc := by
  have ih := laws_heldByteS.rounds_eq a0z a0 a1 k
  refine (laws_heldByteS.s k a0z a0 a1).trans (Eq.trans ?_ (laws_heldByteS.b_nat laws_heldByteS.enc some (laws_heldByteS.l0 k) k a0z a0 a1))
  simp only [ih, Option.map_some]
theorem laws_heldByteS.sound (k : Nat) : SoundF Try.prog 59 (fun a => (laws_heldByteS.ans k a).val) := by
  refine sound_plain (fun args res h => ?_) (fun t n => rfl)
  unfold laws_heldByteS.ans at h
  dsimp only at h
  split at h
  · cases k with
    | zero => cases h
    | succ k =>
      unfold Ans.val at h
      rw [← laws_heldByteS.eq] at h
      exact answer_sound mixed Try.func59 _ _ _ (k + 1) (fun j _ => tab_sound (tab_nil)) _ _ h
  · exact (Ans.no_val h).elim

end Go.Proofs.YtadnejogdohfkaaG
