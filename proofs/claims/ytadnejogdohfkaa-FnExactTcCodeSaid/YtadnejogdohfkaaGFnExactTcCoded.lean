/- What the functions compute, printed by a program of this repo; each is shown to be what the machine of values answers. No condition. -/
import Derived.Test.YtadnejogdohfkaaProg
import Derived.KernelRfl
import Derived.Test.YtadnejogdohfkaaGFnExactTcCodec
namespace Go.Proofs.YtadnejogdohfkaaG
open Go Go.Proofs.YtadnejogdohfkaaRv Go.Proofs
set_option linter.unusedVariables false
set_option linter.unusedSimpArgs false
/-! loop.example/g00790/impl.ShaBlock -/
def impl_ShaBlock.b {R : Type} (ret : Bool × List Int → Option R) (j0 : Bool → (List Int) → Bool → (List Int) → Bool → (List Int) → Int → Int → Option R) (j1 : Bool → (List Int) → Bool → (List Int) → Bool → (List Int) → Int → (List Int) → Option R) (j2 : Bool → (List Int) → Bool → (List Int) → Int → (List Int) → Option R) (j3 : Bool → (List Int) → Bool → (List Int) → Int → (List Int) → (List Int) → Option R) (j4 : Bool → (List Int) → (List Int) → Int → (List Int) → Option R) (k : Nat) (a0z : Bool) (a0 : List Int) (a1z : Bool) (a1 : List Int) : Option R :=
  cond (!(decide (((a0).length : Int) = 8))) (ret (true, ([] : List Int))) (cond (!(decide (((a1).length : Int) = 64))) (ret (true, ([] : List Int))) (j0 a0z a0 a1z a1 a0z a0 ((a0).length : Int) 0))
def impl_ShaBlock.l0b {R : Type} (ret : Bool × List Int → Option R) (j0 : Bool → (List Int) → Bool → (List Int) → Bool → (List Int) → Int → Int → Option R) (j1 : Bool → (List Int) → Bool → (List Int) → Bool → (List Int) → Int → (List Int) → Option R) (j2 : Bool → (List Int) → Bool → (List Int) → Int → (List Int) → Option R) (j3 : Bool → (List Int) → Bool → (List Int) → Int → (List Int) → (List Int) → Option R) (j4 : Bool → (List Int) → (List Int) → Int → (List Int) → Option R) (k : Nat) (x0z : Bool) (x0 : List Int) (x1z : Bool) (x1 : List Int) (x33z : Bool) (x33 : List Int) (x34 : Int) (x35 : Int) : Option R :=
  cond (decide (x35 < x34)) (cond (decide ((0 : Int) ≤ x35)) (cond (decide (x35 < ((x33).length : Int))) ((impl_isWord.f k (rdI x33 x35)).bind fun t0 => cond (!t0) (ret (true, ([] : List Int))) (j0 x0z x0 x1z x1 x33z x33 x34 (RowKit.wrap64 (x35 + 1)))) (none)) (none)) ((impl_rounds.f k).bind fun t0 => j1 x0z x0 x1z x1 t0.1 t0.2 0 ([0, 0, 0, 0, 0, 0, 0, 0, 0, 0, 0, 0, 0, 0, 0, 0, 0, 0, 0, 0, 0, 0, 0, 0, 0, 0, 0, 0, 0, 0, 0, 0, 0, 0, 0, 0, 0, 0, 0, 0, 0, 0, 0, 0, 0, 0, 0, 0, 0, 0, 0, 0, 0, 0, 0, 0, 0, 0, 0, 0, 0, 0, 0, 0] : List Int))
def impl_ShaBlock.l1b {R : Type} (ret : Bool × List Int → Option R) (j0 : Bool → (List Int) → Bool → (List Int) → Bool → (List Int) → Int → Int → Option R) (j1 : Bool → (List Int) → Bool → (List Int) → Bool → (List Int) → Int → (List Int) → Option R) (j2 : Bool → (List Int) → Bool → (List Int) → Int → (List Int) → Option R) (j3 : Bool → (List Int) → Bool → (List Int) → Int → (List Int) → (List Int) → Option R) (j4 : Bool → (List Int) → (List Int) → Int → (List Int) → Option R) (k : Nat) (x0z : Bool) (x0 : List Int) (x1z : Bool) (x1 : List Int) (x8z : Bool) (x8 : List Int) (x46 : Int) (c7 : List Int) : Option R :=
  cond (decide (x46 < 16)) (cond (decide ((0 : Int) ≤ (RowKit.wrap64 ((4 : Int) * x46)))) (cond (decide ((RowKit.wrap64 ((4 : Int) * x46)) < ((x1).length : Int))) (cond (decide ((0 : Int) ≤ (RowKit.wrap64 ((RowKit.wrap64 ((4 : Int) * x46)) + 1)))) (cond (decide ((RowKit.wrap64 ((RowKit.wrap64 ((4 : Int) * x46)) + 1)) < ((x1).length : Int))) (cond (decide ((0 : Int) ≤ (RowKit.wrap64 ((RowKit.wrap64 ((4 : Int) * x46)) + 2)))) (cond (decide ((RowKit.wrap64 ((RowKit.wrap64 ((4 : Int) * x46)) + 2)) < ((x1).length : Int))) (cond (decide ((0 : Int) ≤ (RowKit.wrap64 ((RowKit.wrap64 ((4 : Int) * x46)) + 3)))) (cond (decide ((RowKit.wrap64 ((RowKit.wrap64 ((4 : Int) * x46)) + 3)) < ((x1).length : Int))) (cond (decide ((0 : Int) ≤ x46)) (cond (decide (x46 < 64)) (j1 x0z x0 x1z x1 x8z x8 (RowKit.wrap64 (x46 + 1)) ((c7).set (x46).toNat (Go.bits .or .i64 (Go.bits .or .i64 (Go.bits .or .i64 (shlI .i64 (RowKit.wrap64 ((rdI x1 (RowKit.wrap64 ((4 : Int) * x46))))) 24) (shlI .i64 (RowKit.wrap64 ((rdI x1 (RowKit.wrap64 ((RowKit.wrap64 ((4 : Int) * x46)) + 1))))) 16)) (shlI .i64 (RowKit.wrap64 ((rdI x1 (RowKit.wrap64 ((RowKit.wrap64 ((4 : Int) * x46)) + 2))))) 8)) (RowKit.wrap64 ((rdI x1 (RowKit.wrap64 ((RowKit.wrap64 ((4 : Int) * x46)) + 3)))))))) (none)) (none)) (none)) (none)) (none)) (none)) (none)) (none)) (none)) (none)) (j2 x0z x0 x8z x8 16 c7)
def impl_ShaBlock.l2b {R : Type} (ret : Bool × List Int → Option R) (j0 : Bool → (List Int) → Bool → (List Int) → Bool → (List Int) → Int → Int → Option R) (j1 : Bool → (List Int) → Bool → (List Int) → Bool → (List Int) → Int → (List Int) → Option R) (j2 : Bool → (List Int) → Bool → (List Int) → Int → (List Int) → Option R) (j3 : Bool → (List Int) → Bool → (List Int) → Int → (List Int) → (List Int) → Option R) (j4 : Bool → (List Int) → (List Int) → Int → (List Int) → Option R) (k : Nat) (x0z : Bool) (x0 : List Int) (x8z : Bool) (x8 : List Int) (x11 : Int) (c7 : List Int) : Option R :=
  cond (decide (x11 < 64)) (cond (decide ((0 : Int) ≤ (RowKit.wrap64 (x11 - 15)))) (cond (decide ((RowKit.wrap64 (x11 - 15)) < 64)) (cond (decide ((0 : Int) ≤ (RowKit.wrap64 (x11 - 2)))) (cond (decide ((RowKit.wrap64 (x11 - 2)) < 64)) ((impl_TurnRight.f k (rdI c7 (RowKit.wrap64 (x11 - 15))) 7).bind fun t0 => (impl_TurnRight.f k (rdI c7 (RowKit.wrap64 (x11 - 15))) 18).bind fun t1 => (impl_TurnRight.f k (rdI c7 (RowKit.wrap64 (x11 - 2))) 17).bind fun t2 => (impl_TurnRight.f k (rdI c7 (RowKit.wrap64 (x11 - 2))) 19).bind fun t3 => cond (decide ((0 : Int) ≤ (RowKit.wrap64 (x11 - 16)))) (cond (decide ((RowKit.wrap64 (x11 - 16)) < 64)) (cond (decide ((0 : Int) ≤ (RowKit.wrap64 (x11 - 7)))) (cond (decide ((RowKit.wrap64 (x11 - 7)) < 64)) (cond (decide ((0 : Int) ≤ x11)) (cond (decide (x11 < 64)) (j2 x0z x0 x8z x8 (RowKit.wrap64 (x11 + 1)) ((c7).set (x11).toNat (Go.bits .and .i64 (RowKit.wrap64 ((RowKit.wrap64 ((RowKit.wrap64 ((rdI c7 (RowKit.wrap64 (x11 - 16))) + (Go.bits .xor .i64 (Go.bits .xor .i64 t0 t1) (shrI .i64 (rdI c7 (RowKit.wrap64 (x11 - 15))) 3)))) + (rdI c7 (RowKit.wrap64 (x11 - 7))))) + (Go.bits .xor .i64 (Go.bits .xor .i64 t2 t3) (shrI .i64 (rdI c7 (RowKit.wrap64 (x11 - 2))) 10)))) 4294967295))) (none)) (none)) (none)) (none)) (none)) (none)) (none)) (none)) (none)) (none)) (j3 x0z x0 x8z x8 0 c7 ((x0).take 8 ++ (([0, 0, 0, 0, 0, 0, 0, 0] : List Int)).drop (x0).length))
def impl_ShaBlock.l3b {R : Type} (ret : Bool × List Int → Option R) (j0 : Bool → (List Int) → Bool → (List Int) → Bool → (List Int) → Int → Int → Option R) (j1 : Bool → (List Int) → Bool → (List Int) → Bool → (List Int) → Int → (List Int) → Option R) (j2 : Bool → (List Int) → Bool → (List Int) → Int → (List Int) → Option R) (j3 : Bool → (List Int) → Bool → (List Int) → Int → (List Int) → (List Int) → Option R) (j4 : Bool → (List Int) → (List Int) → Int → (List Int) → Option R) (k : Nat) (x0z : Bool) (x0 : List Int) (x8z : Bool) (x8 : List Int) (x132 : Int) (c7 : List Int) (c9 : List Int) : Option R :=
  cond (decide (x132 < 64)) ((impl_TurnRight.f k (rdI c9 4) 6).bind fun t0 => (impl_TurnRight.f k (rdI c9 4) 11).bind fun t1 => (impl_TurnRight.f k (rdI c9 4) 25).bind fun t2 => cond (decide ((0 : Int) ≤ x132)) (cond (decide (x132 < ((x8).length : Int))) (cond (decide ((0 : Int) ≤ x132)) (cond (decide (x132 < 64)) ((impl_TurnRight.f k (rdI c9 0) 2).bind fun t3 => (impl_TurnRight.f k (rdI c9 0) 13).bind fun t4 => (impl_TurnRight.f k (rdI c9 0) 22).bind fun t5 => j3 x0z x0 x8z x8 (RowKit.wrap64 (x132 + 1)) c7 ([(Go.bits .and .i64 (RowKit.wrap64 ((RowKit.wrap64 ((RowKit.wrap64 ((RowKit.wrap64 ((RowKit.wrap64 ((rdI c9 7) + (Go.bits .xor .i64 (Go.bits .xor .i64 t0 t1) t2))) + (Go.bits .or .i64 (Go.bits .and .i64 (rdI c9 4) (rdI c9 5)) (Go.bits .and .i64 (Go.bits .xor .i64 (rdI c9 4) 4294967295) (rdI c9 6))))) + (rdI x8 x132))) + (rdI c7 x132))) + (RowKit.wrap64 ((Go.bits .xor .i64 (Go.bits .xor .i64 t3 t4) t5) + (Go.bits .or .i64 (Go.bits .or .i64 (Go.bits .and .i64 (rdI c9 0) (rdI c9 1)) (Go.bits .and .i64 (rdI c9 0) (rdI c9 2))) (Go.bits .and .i64 (rdI c9 1) (rdI c9 2))))))) 4294967295), (rdI c9 0), (rdI c9 1), (rdI c9 2), (Go.bits .and .i64 (RowKit.wrap64 ((rdI c9 3) + (RowKit.wrap64 ((RowKit.wrap64 ((RowKit.wrap64 ((RowKit.wrap64 ((rdI c9 7) + (Go.bits .xor .i64 (Go.bits .xor .i64 t0 t1) t2))) + (Go.bits .or .i64 (Go.bits .and .i64 (rdI c9 4) (rdI c9 5)) (Go.bits .and .i64 (Go.bits .xor .i64 (rdI c9 4) 4294967295) (rdI c9 6))))) + (rdI x8 x132))) + (rdI c7 x132))))) 4294967295), (rdI c9 4), (rdI c9 5), (rdI c9 6)] : List Int)) (none)) (none)) (none)) (none)) (j4 x0z x0 ([] : List Int) 0 c9)
def impl_ShaBlock.l4b {R : Type} (ret : Bool × List Int → Option R) (j0 : Bool → (List Int) → Bool → (List Int) → Bool → (List Int) → Int → Int → Option R) (j1 : Bool → (List Int) → Bool → (List Int) → Bool → (List Int) → Int → (List Int) → Option R) (j2 : Bool → (List Int) → Bool → (List Int) → Int → (List Int) → Option R) (j3 : Bool → (List Int) → Bool → (List Int) → Int → (List Int) → (List Int) → Option R) (j4 : Bool → (List Int) → (List Int) → Int → (List Int) → Option R) (k : Nat) (x0z : Bool) (x0 : List Int) (x23 : List Int) (x218 : Int) (c9 : List Int) : Option R :=
  cond (decide (x218 < 8)) (cond (decide ((0 : Int) ≤ x218)) (cond (decide (x218 < ((x0).length : Int))) (cond (decide ((0 : Int) ≤ x218)) (cond (decide (x218 < 8)) (cond (decide ((x23).length + 1 < 17592186044416)) (j4 x0z x0 (x23 ++ ([(Go.bits .and .i64 (RowKit.wrap64 ((rdI x0 x218) + (rdI c9 x218))) 4294967295)] : List Int)) (RowKit.wrap64 (x218 + 1)) c9) (none)) (none)) (none)) (none)) (none)) (ret (false, x23))
mutual
def impl_ShaBlock.l0 : Nat → Bool → (List Int) → Bool → (List Int) → Bool → (List Int) → Int → Int → Option (Bool × List Int)
  | 0, _, _, _, _, _, _, _, _ => none
  | k + 1, x0z, x0, x1z, x1, x33z, x33, x34, x35 => impl_ShaBlock.l0b some (impl_ShaBlock.l0 k) (impl_ShaBlock.l1 k) (impl_ShaBlock.l2 k) (impl_ShaBlock.l3 k) (impl_ShaBlock.l4 k) k x0z x0 x1z x1 x33z x33 x34 x35
def impl_ShaBlock.l1 : Nat → Bool → (List Int) → Bool → (List Int) → Bool → (List Int) → Int → (List Int) → Option (Bool × List Int)
  | 0, _, _, _, _, _, _, _, _ => none
  | k + 1, x0z, x0, x1z, x1, x8z, x8, x46, c7 => impl_ShaBlock.l1b some (impl_ShaBlock.l0 k) (impl_ShaBlock.l1 k) (impl_ShaBlock.l2 k) (impl_ShaBlock.l3 k) (impl_ShaBlock.l4 k) k x0z x0 x1z x1 x8z x8 x46 c7
def impl_ShaBlock.l2 : Nat → Bool → (List Int) → Bool → (List Int) → Int → (List Int) → Option (Bool × List Int)
  | 0, _, _, _, _, _, _ => none
  | k + 1, x0z, x0, x8z, x8, x11, c7 => impl_ShaBlock.l2b some (impl_ShaBlock.l0 k) (impl_ShaBlock.l1 k) (impl_ShaBlock.l2 k) (impl_ShaBlock.l3 k) (impl_ShaBlock.l4 k) k x0z x0 x8z x8 x11 c7
def impl_ShaBlock.l3 : Nat → Bool → (List Int) → Bool → (List Int) → Int → (List Int) → (List Int) → Option (Bool × List Int)
  | 0, _, _, _, _, _, _, _ => none
  | k + 1, x0z, x0, x8z, x8, x132, c7, c9 => impl_ShaBlock.l3b some (impl_ShaBlock.l0 k) (impl_ShaBlock.l1 k) (impl_ShaBlock.l2 k) (impl_ShaBlock.l3 k) (impl_ShaBlock.l4 k) k x0z x0 x8z x8 x132 c7 c9
def impl_ShaBlock.l4 : Nat → Bool → (List Int) → (List Int) → Int → (List Int) → Option (Bool × List Int)
  | 0, _, _, _, _, _ => none
  | k + 1, x0z, x0, x23, x218, c9 => impl_ShaBlock.l4b some (impl_ShaBlock.l0 k) (impl_ShaBlock.l1 k) (impl_ShaBlock.l2 k) (impl_ShaBlock.l3 k) (impl_ShaBlock.l4 k) k x0z x0 x23 x218 c9
end
def impl_ShaBlock.f : Nat → Bool → (List Int) → Bool → (List Int) → Option (Bool × List Int)
  | 0, _, _, _, _ => none
  | k + 1, a0z, a0, a1z, a1 => impl_ShaBlock.b some (impl_ShaBlock.l0 k) (impl_ShaBlock.l1 k) (impl_ShaBlock.l2 k) (impl_ShaBlock.l3 k) (impl_ShaBlock.l4 k) k a0z a0 a1z a1
def impl_ShaBlock.enc (r : Bool × List Int) : Res := ⟨[.vals false [((.nums 3 .i64 r.1 r.2), true)]], []⟩
def impl_ShaBlock.ans (k : Nat) : List Arg → Ans
  | [.v (.nums 3 .i64 a0z a0), .v (.nums 5 .u8 a1z a1)] => ⟨impl_ShaBlock.f k a0z a0 a1z a1, impl_ShaBlock.enc⟩
  | _ => Ans.no
def impl_ShaBlock.Cs (k : Nat) : CallSem := tab [(218, impl_isWord.ans k), (219, impl_rounds.ans k), (220, impl_TurnRight.ans k)]
def impl_ShaBlock.cuts : List (Nat × Keep) := [(58, ⟨[(0, some []), (1, some []), (33, some []), (34, some []), (35, some [])], []⟩), (250, ⟨[(0, some []), (1, some []), (7, some []), (8, none), (9, some []), (46, some [])], []⟩), (506, ⟨[(0, some []), (7, some []), (8, none), (9, some []), (11, some [])], []⟩), (2042, ⟨[(0, some []), (7, some []), (8, none), (9, some []), (132, some [])], []⟩), (8186, ⟨[(0, some []), (9, some []), (23, none), (218, some [])], []⟩)]
noncomputable def impl_ShaBlock.K0 : List Fr := framesAt [true, true, false, true, false] (bodyOf Try.f200 impl_ShaBlock.cuts) []
def impl_ShaBlock.N0 (x0z : Bool) (x0 : List Int) (x1z : Bool) (x1 : List Int) (x33z : Bool) (x33 : List Int) (x34 : Int) (x35 : Int) : St := stOf 235 235 2 [(0, .val ⟨(.nums 3 .i64 x0z x0), [], false, none⟩), (1, .val ⟨(.nums 5 .u8 x1z x1), [], false, none⟩), (33, .val ⟨(.nums 3 .i64 x33z x33), [], false, none⟩), (34, .val (V.s (.int .i64 x34))), (35, .val (V.s (.int .i64 x35)))] []
noncomputable def impl_ShaBlock.K1 : List Fr := framesAt [true, true, true, true, false, true, false] (bodyOf Try.f200 impl_ShaBlock.cuts) []
def impl_ShaBlock.N1 (x0z : Bool) (x0 : List Int) (x1z : Bool) (x1 : List Int) (x8z : Bool) (x8 : List Int) (x46 : Int) (c7 : List Int) : St := stOf 235 235 2 [(0, .val ⟨(.nums 3 .i64 x0z x0), [], false, none⟩), (1, .val ⟨(.nums 5 .u8 x1z x1), [], false, none⟩), (7, .bp 7 0), (8, .val ⟨(.nums 3 .i64 x8z x8), [.l 8 0], true, some (.l 8 0)⟩), (9, .bp 9 0), (46, .val (V.s (.int .i64 x46)))] [(7, .arr .i64 64 c7), (9, .arr .i64 8 ([0, 0, 0, 0, 0, 0, 0, 0] : List Int))]
noncomputable def impl_ShaBlock.K2 : List Fr := framesAt [true, true, true, true, true, false, true, false] (bodyOf Try.f200 impl_ShaBlock.cuts) []
def impl_ShaBlock.N2 (x0z : Bool) (x0 : List Int) (x8z : Bool) (x8 : List Int) (x11 : Int) (c7 : List Int) : St := stOf 235 235 2 [(0, .val ⟨(.nums 3 .i64 x0z x0), [], false, none⟩), (7, .bp 7 0), (8, .val ⟨(.nums 3 .i64 x8z x8), [.l 8 0], true, some (.l 8 0)⟩), (9, .bp 9 0), (11, .val (V.s (.int .i64 x11)))] [(7, .arr .i64 64 c7), (9, .arr .i64 8 ([0, 0, 0, 0, 0, 0, 0, 0] : List Int))]
noncomputable def impl_ShaBlock.K3 : List Fr := framesAt [true, true, true, true, true, true, true, false, true, false] (bodyOf Try.f200 impl_ShaBlock.cuts) []
def impl_ShaBlock.N3 (x0z : Bool) (x0 : List Int) (x8z : Bool) (x8 : List Int) (x132 : Int) (c7 : List Int) (c9 : List Int) : St := stOf 235 235 2 [(0, .val ⟨(.nums 3 .i64 x0z x0), [], false, none⟩), (7, .bp 7 0), (8, .val ⟨(.nums 3 .i64 x8z x8), [.l 8 0], true, some (.l 8 0)⟩), (9, .bp 9 0), (132, .val (V.s (.int .i64 x132)))] [(7, .arr .i64 64 c7), (9, .arr .i64 8 c9)]
noncomputable def impl_ShaBlock.K4 : List Fr := framesAt [true, true, true, true, true, true, true, true, true, false, true, false] (bodyOf Try.f200 impl_ShaBlock.cuts) []
def impl_ShaBlock.N4 (x0z : Bool) (x0 : List Int) (x23 : List Int) (x218 : Int) (c9 : List Int) : St := stOf 235 235 2 [(0, .val ⟨(.nums 3 .i64 x0z x0), [], false, none⟩), (9, .bp 9 0), (23, .val ⟨(.nums 3 .i64 false x23), [.l 23 0], true, some (.l 23 0)⟩), (218, .val (V.s (.int .i64 x218)))] [(9, .arr .i64 8 c9)]
theorem impl_ShaBlock.s (k : Nat) (a0z : Bool) (a0 : List Int) (a1z : Bool) (a1 : List Int) : answer Try.prog impl_ShaBlock.Cs 100000 impl_ShaBlock.cuts [] Try.f200 (k + 1) [.v (.nums 3 .i64 a0z a0), .v (.nums 5 .u8 a1z a1)] = impl_ShaBlock.b (fun r => some (impl_ShaBlock.enc r)) (fun x0z x0 x1z x1 x33z x33 x34 x35 => rounds Try.prog impl_ShaBlock.Cs (finish Try.prog [] Try.f200 [.v (.nums 3 .i64 a0z a0), .v (.nums 5 .u8 a1z a1)]) 100000 k impl_ShaBlock.K0 (impl_ShaBlock.N0 x0z x0 x1z x1 x33z x33 x34 x35)) (fun x0z x0 x1z x1 x8z x8 x46 c7 => rounds Try.prog impl_ShaBlock.Cs (finish Try.prog [] Try.f200 [.v (.nums 3 .i64 a0z a0), .v (.nums 5 .u8 a1z a1)]) 100000 k impl_ShaBlock.K1 (impl_ShaBlock.N1 x0z x0 x1z x1 x8z x8 x46 c7)) (fun x0z x0 x8z x8 x11 c7 => rounds Try.prog impl_ShaBlock.Cs (finish Try.prog [] Try.f200 [.v (.nums 3 .i64 a0z a0), .v (.nums 5 .u8 a1z a1)]) 100000 k impl_ShaBlock.K2 (impl_ShaBlock.N2 x0z x0 x8z x8 x11 c7)) (fun x0z x0 x8z x8 x132 c7 c9 => rounds Try.prog impl_ShaBlock.Cs (finish Try.prog [] Try.f200 [.v (.nums 3 .i64 a0z a0), .v (.nums 5 .u8 a1z a1)]) 100000 k impl_ShaBlock.K3 (impl_ShaBlock.N3 x0z x0 x8z x8 x132 c7 c9)) (fun x0z x0 x23 x218 c9 => rounds Try.prog impl_ShaBlock.Cs (finish Try.prog [] Try.f200 [.v (.nums 3 .i64 a0z a0), .v (.nums 5 .u8 a1z a1)]) 100000 k impl_ShaBlock.K4 (impl_ShaBlock.N4 x0z x0 x23 x218 c9)) k a0z a0 a1z a1 := by kernel_rfl
theorem impl_ShaBlock.s0 (k : Nat) (G : List Fr → St → Option Res) (a0z : Bool) (a0 : List Int) (a1z : Bool) (a1 : List Int) (yx0z : Bool) (yx0 : List Int) (yx1z : Bool) (yx1 : List Int) (yx33z : Bool) (yx33 : List Int) (yx34 : Int) (yx35 : Int) : resume Try.prog (impl_ShaBlock.Cs k) G (finish Try.prog [] Try.f200 [.v (.nums 3 .i64 a0z a0), .v (.nums 5 .u8 a1z a1)]) 100000 impl_ShaBlock.K0 (impl_ShaBlock.N0 yx0z yx0 yx1z yx1 yx33z yx33 yx34 yx35) = impl_ShaBlock.l0b (fun r => some (impl_ShaBlock.enc r)) (fun x0z x0 x1z x1 x33z x33 x34 x35 => G impl_ShaBlock.K0 (impl_ShaBlock.N0 x0z x0 x1z x1 x33z x33 x34 x35)) (fun x0z x0 x1z x1 x8z x8 x46 c7 => G impl_ShaBlock.K1 (impl_ShaBlock.N1 x0z x0 x1z x1 x8z x8 x46 c7)) (fun x0z x0 x8z x8 x11 c7 => G impl_ShaBlock.K2 (impl_ShaBlock.N2 x0z x0 x8z x8 x11 c7)) (fun x0z x0 x8z x8 x132 c7 c9 => G impl_ShaBlock.K3 (impl_ShaBlock.N3 x0z x0 x8z x8 x132 c7 c9)) (fun x0z x0 x23 x218 c9 => G impl_ShaBlock.K4 (impl_ShaBlock.N4 x0z x0 x23 x218 c9)) k yx0z yx0 yx1z yx1 yx33z yx33 yx34 yx35 := by kernel_rfl
theorem impl_ShaBlock.s1 (k : Nat) (G : List Fr → St → Option Res) (a0z : Bool) (a0 : List Int) (a1z : Bool) (a1 : List Int) (yx0z : Bool) (yx0 : List Int) (yx1z : Bool) (yx1 : List Int) (yx8z : Bool) (yx8 : List Int) (yx46 : Int) (yc7 : List Int) : resume Try.prog (impl_ShaBlock.Cs k) G (finish Try.prog [] Try.f200 [.v (.nums 3 .i64 a0z a0), .v (.nums 5 .u8 a1z a1)]) 100000 impl_ShaBlock.K1 (impl_ShaBlock.N1 yx0z yx0 yx1z yx1 yx8z yx8 yx46 yc7) = impl_ShaBlock.l1b (fun r => some (impl_ShaBlock.enc r)) (fun x0z x0 x1z x1 x33z x33 x34 x35 => G impl_ShaBlock.K0 (impl_ShaBlock.N0 x0z x0 x1z x1 x33z x33 x34 x35)) (fun x0z x0 x1z x1 x8z x8 x46 c7 => G impl_ShaBlock.K1 (impl_ShaBlock.N1 x0z x0 x1z x1 x8z x8 x46 c7)) (fun x0z x0 x8z x8 x11 c7 => G impl_ShaBlock.K2 (impl_ShaBlock.N2 x0z x0 x8z x8 x11 c7)) (fun x0z x0 x8z x8 x132 c7 c9 => G impl_ShaBlock.K3 (impl_ShaBlock.N3 x0z x0 x8z x8 x132 c7 c9)) (fun x0z x0 x23 x218 c9 => G impl_ShaBlock.K4 (impl_ShaBlock.N4 x0z x0 x23 x218 c9)) k yx0z yx0 yx1z yx1 yx8z yx8 yx46 yc7 := by kernel_rfl
theorem impl_ShaBlock.s2 (k : Nat) (G : List Fr → St → Option Res) (a0z : Bool) (a0 : List Int) (a1z : Bool) (a1 : List Int) (yx0z : Bool) (yx0 : List Int) (yx8z : Bool) (yx8 : List Int) (yx11 : Int) (yc7 : List Int) : resume Try.prog (impl_ShaBlock.Cs k) G (finish Try.prog [] Try.f200 [.v (.nums 3 .i64 a0z a0), .v (.nums 5 .u8 a1z a1)]) 100000 impl_ShaBlock.K2 (impl_ShaBlock.N2 yx0z yx0 yx8z yx8 yx11 yc7) = impl_ShaBlock.l2b (fun r => some (impl_ShaBlock.enc r)) (fun x0z x0 x1z x1 x33z x33 x34 x35 => G impl_ShaBlock.K0 (impl_ShaBlock.N0 x0z x0 x1z x1 x33z x33 x34 x35)) (fun x0z x0 x1z x1 x8z x8 x46 c7 => G impl_ShaBlock.K1 (impl_ShaBlock.N1 x0z x0 x1z x1 x8z x8 x46 c7)) (fun x0z x0 x8z x8 x11 c7 => G impl_ShaBlock.K2 (impl_ShaBlock.N2 x0z x0 x8z x8 x11 c7)) (fun x0z x0 x8z x8 x132 c7 c9 => G impl_ShaBlock.K3 (impl_ShaBlock.N3 x0z x0 x8z x8 x132 c7 c9)) (fun x0z x0 x23 x218 c9 => G impl_ShaBlock.K4 (impl_ShaBlock.N4 x0z x0 x23 x218 c9)) k yx0z yx0 yx8z yx8 yx11 yc7 := by kernel_rfl
theorem impl_ShaBlock.s3 (k : Nat) (G : List Fr → St → Option Res) (a0z : Bool) (a0 : List Int) (a1z : Bool) (a1 : List Int) (yx0z : Bool) (yx0 : List Int) (yx8z : Bool) (yx8 : List Int) (yx132 : Int) (yc7 : List Int) (yc9 : List Int) : resume Try.prog (impl_ShaBlock.Cs k) G (finish Try.prog [] Try.f200 [.v (.nums 3 .i64 a0z a0), .v (.nums 5 .u8 a1z a1)]) 100000 impl_ShaBlock.K3 (impl_ShaBlock.N3 yx0z yx0 yx8z yx8 yx132 yc7 yc9) = impl_ShaBlock.l3b (fun r => some (impl_ShaBlock.enc r)) (fun x0z x0 x1z x1 x33z x33 x34 x35 => G impl_ShaBlock.K0 (impl_ShaBlock.N0 x0z x0 x1z x1 x33z x33 x34 x35)) (fun x0z x0 x1z x1 x8z x8 x46 c7 => G impl_ShaBlock.K1 (impl_ShaBlock.N1 x0z x0 x1z x1 x8z x8 x46 c7)) (fun x0z x0 x8z x8 x11 c7 => G impl_ShaBlock.K2 (impl_ShaBlock.N2 x0z x0 x8z x8 x11 c7)) (fun x0z x0 x8z x8 x132 c7 c9 => G impl_ShaBlock.K3 (impl_ShaBlock.N3 x0z x0 x8z x8 x132 c7 c9)) (fun x0z x0 x23 x218 c9 => G impl_ShaBlock.K4 (impl_ShaBlock.N4 x0z x0 x23 x218 c9)) k yx0z yx0 yx8z yx8 yx132 yc7 yc9 := by kernel_rfl
theorem impl_ShaBlock.s4 (k : Nat) (G : List Fr → St → Option Res) (a0z : Bool) (a0 : List Int) (a1z : Bool) (a1 : List Int) (yx0z : Bool) (yx0 : List Int) (yx23 : List Int) (yx218 : Int) (yc9 : List Int) : resume Try.prog (impl_ShaBlock.Cs k) G (finish Try.prog [] Try.f200 [.v (.nums 3 .i64 a0z a0), .v (.nums 5 .u8 a1z a1)]) 100000 impl_ShaBlock.K4 (impl_ShaBlock.N4 yx0z yx0 yx23 yx218 yc9) = impl_ShaBlock.l4b (fun r => some (impl_ShaBlock.enc r)) (fun x0z x0 x1z x1 x33z x33 x34 x35 => G impl_ShaBlock.K0 (impl_ShaBlock.N0 x0z x0 x1z x1 x33z x33 x34 x35)) (fun x0z x0 x1z x1 x8z x8 x46 c7 => G impl_ShaBlock.K1 (impl_ShaBlock.N1 x0z x0 x1z x1 x8z x8 x46 c7)) (fun x0z x0 x8z x8 x11 c7 => G impl_ShaBlock.K2 (impl_ShaBlock.N2 x0z x0 x8z x8 x11 c7)) (fun x0z x0 x8z x8 x132 c7 c9 => G impl_ShaBlock.K3 (impl_ShaBlock.N3 x0z x0 x8z x8 x132 c7 c9)) (fun x0z x0 x23 x218 c9 => G impl_ShaBlock.K4 (impl_ShaBlock.N4 x0z x0 x23 x218 c9)) k yx0z yx0 yx23 yx218 yc9 := by kernel_rfl
theorem impl_ShaBlock.b_nat {R R' : Type} (e : R → R') (ret : Bool × List Int → Option R) (j0 : Bool → (List Int) → Bool → (List Int) → Bool → (List Int) → Int → Int → Option R) (j1 : Bool → (List Int) → Bool → (List Int) → Bool → (List Int) → Int → (List Int) → Option R) (j2 : Bool → (List Int) → Bool → (List Int) → Int → (List Int) → Option R) (j3 : Bool → (List Int) → Bool → (List Int) → Int → (List Int) → (List Int) → Option R) (j4 : Bool → (List Int) → (List Int) → Int → (List Int) → Option R) (k : Nat) (a0z : Bool) (a0 : List Int) (a1z : Bool) (a1 : List Int) : impl_ShaBlock.b (fun r => (ret r).map e) (fun x0z x0 x1z x1 x33z x33 x34 x35 => (j0 x0z x0 x1z x1 x33z x33 x34 x35).map e) (fun x0z x0 x1z x1 x8z x8 x46 c7 => (j1 x0z x0 x1z x1 x8z x8 x46 c7).map e) (fun x0z x0 x8z x8 x11 c7 => (j2 x0z x0 x8z x8 x11 c7).map e) (fun x0z x0 x8z x8 x132 c7 c9 => (j3 x0z x0 x8z x8 x132 c7 c9).map e) (fun x0z x0 x23 x218 c9 => (j4 x0z x0 x23 x218 c9).map e) k a0z a0 a1z a1 = (impl_ShaBlock.b ret j0 j1 j2 j3 j4 k a0z a0 a1z a1).map e := by
  unfold impl_ShaBlock.b
  repeat' first | with_reducible refine nat_cond ?_ ?_ | with_reducible refine nat_bind fun _ => ?_ | rfl
theorem impl_ShaBlock.l0b_nat {R R' : Type} (e : R → R') (ret : Bool × List Int → Option R) (j0 : Bool → (List Int) → Bool → (List Int) → Bool → (List Int) → Int → Int → Option R) (j1 : Bool → (List Int) → Bool → (List Int) → Bool → (List Int) → Int → (List Int) → Option R) (j2 : Bool → (List Int) → Bool → (List Int) → Int → (List Int) → Option R) (j3 : Bool → (List Int) → Bool → (List Int) → Int → (List Int) → (List Int) → Option R) (j4 : Bool → (List Int) → (List Int) → Int → (List Int) → Option R) (k : Nat) (x0z : Bool) (x0 : List Int) (x1z : Bool) (x1 : List Int) (x33z : Bool) (x33 : List Int) (x34 : Int) (x35 : Int) : impl_ShaBlock.l0b (fun r => (ret r).map e) (fun x0z x0 x1z x1 x33z x33 x34 x35 => (j0 x0z x0 x1z x1 x33z x33 x34 x35).map e) (fun x0z x0 x1z x1 x8z x8 x46 c7 => (j1 x0z x0 x1z x1 x8z x8 x46 c7).map e) (fun x0z x0 x8z x8 x11 c7 => (j2 x0z x0 x8z x8 x11 c7).map e) (fun x0z x0 x8z x8 x132 c7 c9 => (j3 x0z x0 x8z x8 x132 c7 c9).map e) (fun x0z x0 x23 x218 c9 => (j4 x0z x0 x23 x218 c9).map e) k x0z x0 x1z x1 x33z x33 x34 x35 = (impl_ShaBlock.l0b ret j0 j1 j2 j3 j4 k x0z x0 x1z x1 x33z x33 x34 x35).map e := by
  unfold impl_ShaBlock.l0b
  repeat' first | with_reducible refine nat_cond ?_ ?_ | with_reducible refine nat_bind fun _ => ?_ | rfl
theorem impl_ShaBlock.l1b_nat {R R' : Type} (e : R → R') (ret : Bool × List Int → Option R) (j0 : Bool → (List Int) → Bool → (List Int) → Bool → (List Int) → Int → Int → Option R) (j1 : Bool → (List Int) → Bool → (List Int) → Bool → (List Int) → Int → (List Int) → Option R) (j2 : Bool → (List Int) → Bool → (List Int) → Int → (List Int) → Option R) (j3 : Bool → (List Int) → Bool → (List Int) → Int → (List Int) → (List Int) → Option R) (j4 : Bool → (List Int) → (List Int) → Int → (List Int) → Option R) (k : Nat) (x0z : Bool) (x0 : List Int) (x1z : Bool) (x1 : List Int) (x8z : Bool) (x8 : List Int) (x46 : Int) (c7 : List Int) : impl_ShaBlock.l1b (fun r => (ret r).map e) (fun x0z x0 x1z x1 x33z x33 x34 x35 => (j0 x0z x0 x1z x1 x33z x33 x34 x35).map e) (fun x0z x0 x1z x1 x8z x8 x46 c7 => (j1 x0z x0 x1z x1 x8z x8 x46 c7).map e) (fun x0z x0 x8z x8 x11 c7 => (j2 x0z x0 x8z x8 x11 c7).map e) (fun x0z x0 x8z x8 x132 c7 c9 => (j3 x0z x0 x8z x8 x132 c7 c9).map e) (fun x0z x0 x23 x218 c9 => (j4 x0z x0 x23 x218 c9).map e) k x0z x0 x1z x1 x8z x8 x46 c7 = (impl_ShaBlock.l1b ret j0 j1 j2 j3 j4 k x0z x0 x1z x1 x8z x8 x46 c7).map e := by
  unfold impl_ShaBlock.l1b
  repeat' first | with_reducible refine nat_cond ?_ ?_ | with_reducible refine nat_bind fun _ => ?_ | rfl
theorem impl_ShaBlock.l2b_nat {R R' : Type} (e : R → R') (ret : Bool × List Int → Option R) (j0 : Bool → (List Int) → Bool → (List Int) → Bool → (List Int) → Int → Int → Option R) (j1 : Bool → (List Int) → Bool → (List Int) → Bool → (List Int) → Int → (List Int) → Option R) (j2 : Bool → (List Int) → Bool → (List Int) → Int → (List Int) → Option R) (j3 : Bool → (List Int) → Bool → (List Int) → Int → (List Int) → (List Int) → Option R) (j4 : Bool → (List Int) → (List Int) → Int → (List Int) → Option R) (k : Nat) (x0z : Bool) (x0 : List Int) (x8z : Bool) (x8 : List Int) (x11 : Int) (c7 : List Int) : impl_ShaBlock.l2b (fun r => (ret r).map e) (fun x0z x0 x1z x1 x33z x33 x34 x35 => (j0 x0z x0 x1z x1 x33z x33 x34 x35).map e) (fun x0z x0 x1z x1 x8z x8 x46 c7 => (j1 x0z x0 x1z x1 x8z x8 x46 c7).map e) (fun x0z x0 x8z x8 x11 c7 => (j2 x0z x0 x8z x8 x11 c7).map e) (fun x0z x0 x8z x8 x132 c7 c9 => (j3 x0z x0 x8z x8 x132 c7 c9).map e) (fun x0z x0 x23 x218 c9 => (j4 x0z x0 x23 x218 c9).map e) k x0z x0 x8z x8 x11 c7 = (impl_ShaBlock.l2b ret j0 j1 j2 j3 j4 k x0z x0 x8z x8 x11 c7).map e := by
  unfold impl_ShaBlock.l2b
  repeat' first | with_reducible refine nat_cond ?_ ?_ | with_reducible refine nat_bind fun _ => ?_ | rfl
theorem impl_ShaBlock.l3b_nat {R R' : Type} (e : R → R') (ret : Bool × List Int → Option R) (j0 : Bool → (List Int) → Bool → (List Int) → Bool → (List Int) → Int → Int → Option R) (j1 : Bool → (List Int) → Bool → (List Int) → Bool → (List Int) → Int → (List Int) → Option R) (j2 : Bool → (List Int) → Bool → (List Int) → Int → (List Int) → Option R) (j3 : Bool → (List Int) → Bool → (List Int) → Int → (List Int) → (List Int) → Option R) (j4 : Bool → (List Int) → (List Int) → Int → (List Int) → Option R) (k : Nat) (x0z : Bool) (x0 : List Int) (x8z : Bool) (x8 : List Int) (x132 : Int) (c7 : List Int) (c9 : List Int) : impl_ShaBlock.l3b (fun r => (ret r).map e) (fun x0z x0 x1z x1 x33z x33 x34 x35 => (j0 x0z x0 x1z x1 x33z x33 x34 x35).map e) (fun x0z x0 x1z x1 x8z x8 x46 c7 => (j1 x0z x0 x1z x1 x8z x8 x46 c7).map e) (fun x0z x0 x8z x8 x11 c7 => (j2 x0z x0 x8z x8 x11 c7).map e) (fun x0z x0 x8z x8 x132 c7 c9 => (j3 x0z x0 x8z x8 x132 c7 c9).map e) (fun x0z x0 x23 x218 c9 => (j4 x0z x0 x23 x218 c9).map e) k x0z x0 x8z x8 x132 c7 c9 = (impl_ShaBlock.l3b ret j0 j1 j2 j3 j4 k x0z x0 x8z x8 x132 c7 c9).map e := by
  unfold impl_ShaBlock.l3b
  repeat' first | with_reducible refine nat_cond ?_ ?_ | with_reducible refine nat_bind fun _ => ?_ | rfl
theorem impl_ShaBlock.l4b_nat {R R' : Type} (e : R → R') (ret : Bool × List Int → Option R) (j0 : Bool → (List Int) → Bool → (List Int) → Bool → (List Int) → Int → Int → Option R) (j1 : Bool → (List Int) → Bool → (List Int) → Bool → (List Int) → Int → (List Int) → Option R) (j2 : Bool → (List Int) → Bool → (List Int) → Int → (List Int) → Option R) (j3 : Bool → (List Int) → Bool → (List Int) → Int → (List Int) → (List Int) → Option R) (j4 : Bool → (List Int) → (List Int) → Int → (List Int) → Option R) (k : Nat) (x0z : Bool) (x0 : List Int) (x23 : List Int) (x218 : Int) (c9 : List Int) : impl_ShaBlock.l4b (fun r => (ret r).map e) (fun x0z x0 x1z x1 x33z x33 x34 x35 => (j0 x0z x0 x1z x1 x33z x33 x34 x35).map e) (fun x0z x0 x1z x1 x8z x8 x46 c7 => (j1 x0z x0 x1z x1 x8z x8 x46 c7).map e) (fun x0z x0 x8z x8 x11 c7 => (j2 x0z x0 x8z x8 x11 c7).map e) (fun x0z x0 x8z x8 x132 c7 c9 => (j3 x0z x0 x8z x8 x132 c7 c9).map e) (fun x0z x0 x23 x218 c9 => (j4 x0z x0 x23 x218 c9).map e) k x0z x0 x23 x218 c9 = (impl_ShaBlock.l4b ret j0 j1 j2 j3 j4 k x0z x0 x23 x218 c9).map e := by
  unfold impl_ShaBlock.l4b
  repeat' first | with_reducible refine nat_cond ?_ ?_ | with_reducible refine nat_bind fun _ => ?_ | rfl
theorem impl_ShaBlock.rounds_eq (a0z : Bool) (a0 : List Int) (a1z : Bool) (a1 : List Int) : ∀ k, (∀ (x0z : Bool) (x0 : List Int) (x1z : Bool) (x1 : List Int) (x33z : Bool) (x33 : List Int) (x34 : Int) (x35 : Int), rounds Try.prog impl_ShaBlock.Cs (finish Try.prog [] Try.f200 [.v (.nums 3 .i64 a0z a0), .v (.nums 5 .u8 a1z a1)]) 100000 k impl_ShaBlock.K0 (impl_ShaBlock.N0 x0z x0 x1z x1 x33z x33 x34 x35) = (impl_ShaBlock.l0 k x0z x0 x1z x1 x33z x33 x34 x35).map impl_ShaBlock.enc) ∧ (∀ (x0z : Bool) (x0 : List Int) (x1z : Bool) (x1 : List Int) (x8z : Bool) (x8 : List Int) (x46 : Int) (c7 : List Int), rounds Try.prog impl_ShaBlock.Cs (finish Try.prog [] Try.f200 [.v (.nums 3 .i64 a0z a0), .v (.nums 5 .u8 a1z a1)]) 100000 k impl_ShaBlock.K1 (impl_ShaBlock.N1 x0z x0 x1z x1 x8z x8 x46 c7) = (impl_ShaBlock.l1 k x0z x0 x1z x1 x8z x8 x46 c7).map impl_ShaBlock.enc) ∧ (∀ (x0z : Bool) (x0 : List Int) (x8z : Bool) (x8 : List Int) (x11 : Int) (c7 : List Int), rounds Try.prog impl_ShaBlock.Cs (finish Try.prog [] Try.f200 [.v (.nums 3 .i64 a0z a0), .v (.nums 5 .u8 a1z a1)]) 100000 k impl_ShaBlock.K2 (impl_ShaBlock.N2 x0z x0 x8z x8 x11 c7) = (impl_ShaBlock.l2 k x0z x0 x8z x8 x11 c7).map impl_ShaBlock.enc) ∧ (∀ (x0z : Bool) (x0 : List Int) (x8z : Bool) (x8 : List Int) (x132 : Int) (c7 : List Int) (c9 : List Int), rounds Try.prog impl_ShaBlock.Cs (finish Try.prog [] Try.f200 [.v (.nums 3 .i64 a0z a0), .v (.nums 5 .u8 a1z a1)]) 100000 k impl_ShaBlock.K3 (impl_ShaBlock.N3 x0z x0 x8z x8 x132 c7 c9) = (impl_ShaBlock.l3 k x0z x0 x8z x8 x132 c7 c9).map impl_ShaBlock.enc) ∧ (∀ (x0z : Bool) (x0 : List Int) (x23 : List Int) (x218 : Int) (c9 : List Int), rounds Try.prog impl_ShaBlock.Cs (finish Try.prog [] Try.f200 [.v (.nums 3 .i64 a0z a0), .v (.nums 5 .u8 a1z a1)]) 100000 k impl_ShaBlock.K4 (impl_ShaBlock.N4 x0z x0 x23 x218 c9) = (impl_ShaBlock.l4 k x0z x0 x23 x218 c9).map impl_ShaBlock.enc)
  | 0 => ⟨fun _ _ _ _ _ _ _ _ => rfl, fun _ _ _ _ _ _ _ _ => rfl, fun _ _ _ _ _ _ => rfl, fun _ _ _ _ _ _ _ => rfl, fun _ _ _ _ _ => rfl⟩
  | k + 1 => by
    have ih := impl_ShaBlock.rounds_eq a0z a0 a1z a1 k
    refine ⟨fun _ _ _ _ _ _ _ _ => ?_, fun _ _ _ _ _ _ _ _ => ?_, fun _ _ _ _ _ _ => ?_, fun _ _ _ _ _ _ _ => ?_, fun _ _ _ _ _ => ?_⟩
    · refine (impl_ShaBlock.s0 k _ a0z a0 a1z a1 _ _ _ _ _ _ _ _).trans (Eq.trans ?_ (impl_ShaBlock.l0b_nat impl_ShaBlock.enc some (impl_ShaBlock.l0 k) (impl_ShaBlock.l1 k) (impl_ShaBlock.l2 k) (impl_ShaBlock.l3 k) (impl_ShaBlock.l4 k) k _ _ _ _ _ _ _ _))
      simp only [ih.1, ih.2.1, ih.2.2.1, ih.2.2.2.1, ih.2.2.2.2, Option.map_some]
    · refine (impl_ShaBlock.s1 k _ a0z a0 a1z a1 _ _ _ _ _ _ _ _).trans (Eq.trans ?_ (impl_ShaBlock.l1b_nat impl_ShaBlock.enc some (impl_ShaBlock.l0 k) (impl_ShaBlock.l1 k) (impl_ShaBlock.l2 k) (impl_ShaBlock.l3 k) (impl_ShaBlock.l4 k) k _ _ _ _ _ _ _ _))
      simp only [ih.1, ih.2.1, ih.2.2.1, ih.2.2.2.1, ih.2.2.2.2, Option.map_some]
    · refine (impl_ShaBlock.s2 k _ a0z a0 a1z a1 _ _ _ _ _ _).trans (Eq.trans ?_ (impl_ShaBlock.l2b_nat impl_ShaBlock.enc some (impl_ShaBlock.l0 k) (impl_ShaBlock.l1 k) (impl_ShaBlock.l2 k) (impl_ShaBlock.l3 k) (impl_ShaBlock.l4 k) k _ _ _ _ _ _))
      simp only [ih.1, ih.2.1, ih.2.2.1, ih.2.2.2.1, ih.2.2.2.2, Option.map_some]
    · refine (impl_ShaBlock.s3 k _ a0z a0 a1z a1 _ _ _ _ _ _ _).trans (Eq.trans ?_ (impl_ShaBlock.l3b_nat impl_ShaBlock.enc some (impl_ShaBlock.l0 k) (impl_ShaBlock.l1 k) (impl_ShaBlock.l2 k) (impl_ShaBlock.l3 k) (impl_ShaBlock.l4 k) k _ _ _ _ _ _ _))
      simp only [ih.1, ih.2.1, ih.2.2.1, ih.2.2.2.1, ih.2.2.2.2, Option.map_some]
    · refine (impl_ShaBlock.s4 k _ a0z a0 a1z a1 _ _ _ _ _).trans (Eq.trans ?_ (impl_ShaBlock.l4b_nat impl_ShaBlock.enc some (impl_ShaBlock.l0 k) (impl_ShaBlock.l1 k) (impl_ShaBlock.l2 k) (impl_ShaBlock.l3 k) (impl_ShaBlock.l4 k) k _ _ _ _ _))
      simp only [ih.1, ih.2.1, ih.2.2.1, ih.2.2.2.1, ih.2.2.2.2, Option.map_some]
theorem impl_ShaBlock.eq (k : Nat) (a0z : Bool) (a0 : List Int) (a1z : Bool) (a1 : List Int) : answer Try.prog impl_ShaBlock.Cs 100000 impl_ShaBlock.cuts [] Try.f200 (k + 1) [.v (.nums 3 .i64 a0z a0), .v (.nums 5 .u8 a1z a1)] = (impl_ShaBlock.f (k + 1) a0z a0 a1z a1).map impl_ShaBlock.enc := by
  have ih := impl_ShaBlock.rounds_eq a0z a0 a1z a1 k
  refine (impl_ShaBlock.s k a0z a0 a1z a1).trans (Eq.trans ?_ (impl_ShaBlock.b_nat impl_ShaBlock.enc some (impl_ShaBlock.l0 k) (impl_ShaBlock.l1 k) (impl_ShaBlock.l2 k) (impl_ShaBlock.l3 k) (impl_ShaBlock.l4 k) k a0z a0 a1z a1))
  simp only [ih.1, ih.2.1, ih.2.2.1, ih.2.2.2.1, ih.2.2.2.2, Option.map_some]
theorem impl_ShaBlock.sound (k : Nat) : SoundF Try.prog 200 (fun a => (impl_ShaBlock.ans k a).val) := by
  refine sound_plain (fun args res h => ?_) (fun t n => rfl)
  unfold impl_ShaBlock.ans at h
  dsimp only at h
  split at h
  · cases k with
    | zero => cases h
    | succ k =>
      unfold Ans.val at h
      rw [← impl_ShaBlock.eq] at h
      exact answer_sound mixed Try.func200 _ _ _ (k + 1) (fun j _ => tab_sound (tab_cons (impl_isWord.sound j) (tab_cons (impl_rounds.sound j) (tab_cons (impl_TurnRight.sound j) (tab_nil))))) _ _ h
  · exact (Ans.no_val h).elim

/-! loop.example/g00790/impl.Sha -/
def impl_Sha.b {R : Type} (ret : Bool × List Int → Option R) (j0 : Bool → (List Int) → Bool → (List Int) → Int → Option R) (j1 : (List Int) → Bool → (List Int) → Int → Int → Option R) (k : Nat) (a0z : Bool) (a0 : List Int) : Option R :=
  (impl_ShaInit.f k).bind fun t0 => (impl_ShaPad.f k a0z a0).bind fun t1 => j0 t0.1 t0.2 t1.1 t1.2 0
def impl_Sha.l0b {R : Type} (ret : Bool × List Int → Option R) (j0 : Bool → (List Int) → Bool → (List Int) → Int → Option R) (j1 : (List Int) → Bool → (List Int) → Int → Int → Option R) (k : Nat) (x3z : Bool) (x3 : List Int) (x4z : Bool) (x4 : List Int) (x5 : Int) : Option R :=
  cond (decide (x5 < ((x4).length : Int))) (cond (decide ((0 : Int) ≤ (RowKit.wrap64 (x5 + 64)))) (cond (decide ((RowKit.wrap64 (x5 + 64)) ≤ ((x4).length : Int))) (cond (decide ((0 : Int) ≤ x5)) (cond (decide (x5 ≤ (RowKit.wrap64 (x5 + 64)))) ((impl_ShaBlock.f k x3z x3 x4z (((x4).take ((RowKit.wrap64 (x5 + 64))).toNat).drop (x5).toNat)).bind fun t0 => j0 t0.1 t0.2 x4z x4 (RowKit.wrap64 (x5 + 64))) (none)) (none)) (none)) (none)) (j1 ([] : List Int) x3z x3 ((x3).length : Int) 0)
def impl_Sha.l1b {R : Type} (ret : Bool × List Int → Option R) (j0 : Bool → (List Int) → Bool → (List Int) → Int → Option R) (j1 : (List Int) → Bool → (List Int) → Int → Int → Option R) (k : Nat) (x6 : List Int) (x26z : Bool) (x26 : List Int) (x27 : Int) (x28 : Int) : Option R :=
  cond (decide (x28 < x27)) (cond (decide ((0 : Int) ≤ x28)) (cond (decide (x28 < ((x26).length : Int))) (cond (decide ((x6).length + 4 < 140737488355328)) (j1 (x6 ++ ([(((shrI .i64 (rdI x26 x28) 24)) % 256), (((shrI .i64 (rdI x26 x28) 16)) % 256), (((shrI .i64 (rdI x26 x28) 8)) % 256), (((rdI x26 x28)) % 256)] : List Int)) x26z x26 x27 (RowKit.wrap64 (x28 + 1))) (none)) (none)) (none)) (ret (false, x6))
mutual
def impl_Sha.l0 : Nat → Bool → (List Int) → Bool → (List Int) → Int → Option (Bool × List Int)
  | 0, _, _, _, _, _ => none
  | k + 1, x3z, x3, x4z, x4, x5 => impl_Sha.l0b some (impl_Sha.l0 k) (impl_Sha.l1 k) k x3z x3 x4z x4 x5
def impl_Sha.l1 : Nat → (List Int) → Bool → (List Int) → Int → Int → Option (Bool × List Int)
  | 0, _, _, _, _, _ => none
  | k + 1, x6, x26z, x26, x27, x28 => impl_Sha.l1b some (impl_Sha.l0 k) (impl_Sha.l1 k) k x6 x26z x26 x27 x28
end
def impl_Sha.f : Nat → Bool → (List Int) → Option (Bool × List Int)
  | 0, _, _ => none
  | k + 1, a0z, a0 => impl_Sha.b some (impl_Sha.l0 k) (impl_Sha.l1 k) k a0z a0
def impl_Sha.enc (r : Bool × List Int) : Res := ⟨[.vals false [((.nums 5 .u8 r.1 r.2), true)]], []⟩
def impl_Sha.ans (k : Nat) : List Arg → Ans
  | [.v (.nums 5 .u8 a0z a0)] => ⟨impl_Sha.f k a0z a0, impl_Sha.enc⟩
  | _ => Ans.no
def impl_Sha.Cs (k : Nat) : CallSem := tab [(198, impl_ShaInit.ans k), (199, impl_ShaPad.ans k), (200, impl_ShaBlock.ans k)]
def impl_Sha.cuts : List (Nat × Keep) := [(58, ⟨[(3, none), (4, none), (5, some [])], []⟩), (250, ⟨[(6, none), (26, none), (27, some []), (28, some [])], []⟩)]
noncomputable def impl_Sha.K0 : List Fr := framesAt [true, true, false, true, false] (bodyOf Try.f159 impl_Sha.cuts) []
def impl_Sha.N0 (x3z : Bool) (x3 : List Int) (x4z : Bool) (x4 : List Int) (x5 : Int) : St := stOf 48 48 1 [(3, .val ⟨(.nums 3 .i64 x3z x3), [.l 3 0], true, some (.l 3 0)⟩), (4, .val ⟨(.nums 5 .u8 x4z x4), [.l 4 0], true, some (.l 4 0)⟩), (5, .val (V.s (.int .i64 x5)))] []
noncomputable def impl_Sha.K1 : List Fr := framesAt [true, true, true, true, false, true, false] (bodyOf Try.f159 impl_Sha.cuts) []
def impl_Sha.N1 (x6 : List Int) (x26z : Bool) (x26 : List Int) (x27 : Int) (x28 : Int) : St := stOf 48 48 1 [(6, .val ⟨(.nums 5 .u8 false x6), [.l 6 0], true, some (.l 6 0)⟩), (26, .val ⟨(.nums 3 .i64 x26z x26), [.l 26 0], true, some (.l 26 0)⟩), (27, .val (V.s (.int .i64 x27))), (28, .val (V.s (.int .i64 x28)))] []
theorem impl_Sha.s (k : Nat) (a0z : Bool) (a0 : List Int) : answer Try.prog impl_Sha.Cs 100000 impl_Sha.cuts [] Try.f159 (k + 1) [.v (.nums 5 .u8 a0z a0)] = impl_Sha.b (fun r => some (impl_Sha.enc r)) (fun x3z x3 x4z x4 x5 => rounds Try.prog impl_Sha.Cs (finish Try.prog [] Try.f159 [.v (.nums 5 .u8 a0z a0)]) 100000 k impl_Sha.K0 (impl_Sha.N0 x3z x3 x4z x4 x5)) (fun x6 x26z x26 x27 x28 => rounds Try.prog impl_Sha.Cs (finish Try.prog [] Try.f159 [.v (.nums 5 .u8 a0z a0)]) 100000 k impl_Sha.K1 (impl_Sha.N1 x6 x26z x26 x27 x28)) k a0z a0 := by kernel_rfl
theorem impl_Sha.s0 (k : Nat) (G : List Fr → St → Option Res) (a0z : Bool) (a0 : List Int) (yx3z : Bool) (yx3 : List Int) (yx4z : Bool) (yx4 : List Int) (yx5 : Int) : resume Try.prog (impl_Sha.Cs k) G (finish Try.prog [] Try.f159 [.v (.nums 5 .u8 a0z a0)]) 100000 impl_Sha.K0 (impl_Sha.N0 yx3z yx3 yx4z yx4 yx5) = impl_Sha.l0b (fun r => some (impl_Sha.enc r)) (fun x3z x3 x4z x4 x5 => G impl_Sha.K0 (impl_Sha.N0 x3z x3 x4z x4 x5)) (fun x6 x26z x26 x27 x28 => G impl_Sha.K1 (impl_Sha.N1 x6 x26z x26 x27 x28)) k yx3z yx3 yx4z yx4 yx5 := by kernel_rfl
theorem impl_Sha.s1 (k : Nat) (G : List Fr → St → Option Res) (a0z : Bool) (a0 : List Int) (yx6 : List Int) (yx26z : Bool) (yx26 : List Int) (yx27 : Int) (yx28 : Int) : resume Try.prog (impl_Sha.Cs k) G (finish Try.prog [] Try.f159 [.v (.nums 5 .u8 a0z a0)]) 100000 impl_Sha.K1 (impl_Sha.N1 yx6 yx26z yx26 yx27 yx28) = impl_Sha.l1b (fun r => some (impl_Sha.enc r)) (fun x3z x3 x4z x4 x5 => G impl_Sha.K0 (impl_Sha.N0 x3z x3 x4z x4 x5)) (fun x6 x26z x26 x27 x28 => G impl_Sha.K1 (impl_Sha.N1 x6 x26z x26 x27 x28)) k yx6 yx26z yx26 yx27 yx28 := by kernel_rfl
theorem impl_Sha.b_nat {R R' : Type} (e : R → R') (ret : Bool × List Int → Option R) (j0 : Bool → (List Int) → Bool → (List Int) → Int → Option R) (j1 : (List Int) → Bool → (List Int) → Int → Int → Option R) (k : Nat) (a0z : Bool) (a0 : List Int) : impl_Sha.b (fun r => (ret r).map e) (fun x3z x3 x4z x4 x5 => (j0 x3z x3 x4z x4 x5).map e) (fun x6 x26z x26 x27 x28 => (j1 x6 x26z x26 x27 x28).map e) k a0z a0 = (impl_Sha.b ret j0 j1 k a0z a0).map e := by
  unfold impl_Sha.b
  repeat' first | with_reducible refine nat_cond ?_ ?_ | with_reducible refine nat_bind fun _ => ?_ | rfl
theorem impl_Sha.l0b_nat {R R' : Type} (e : R → R') (ret : Bool × List Int → Option R) (j0 : Bool → (List Int) → Bool → (List Int) → Int → Option R) (j1 : (List Int) → Bool → (List Int) → Int → Int → Option R) (k : Nat) (x3z : Bool) (x3 : List Int) (x4z : Bool) (x4 : List Int) (x5 : Int) : impl_Sha.l0b (fun r => (ret r).map e) (fun x3z x3 x4z x4 x5 => (j0 x3z x3 x4z x4 x5).map e) (fun x6 x26z x26 x27 x28 => (j1 x6 x26z x26 x27 x28).map e) k x3z x3 x4z x4 x5 = (impl_Sha.l0b ret j0 j1 k x3z x3 x4z x4 x5).map e := by
  unfold impl_Sha.l0b
  repeat' first | with_reducible refine nat_cond ?_ ?_ | with_reducible refine nat_bind fun _ => ?_ | rfl
theorem impl_Sha.l1b_nat {R R' : Type} (e : R → R') (ret : Bool × List Int → Option R) (j0 : Bool → (List Int) → Bool → (List Int) → Int → Option R) (j1 : (List Int) → Bool → (List Int) → Int → Int → Option R) (k : Nat) (x6 : List Int) (x26z : Bool) (x26 : List Int) (x27 : Int) (x28 : Int) : impl_Sha.l1b (fun r => (ret r).map e) (fun x3z x3 x4z x4 x5 => (j0 x3z x3 x4z x4 x5).map e) (fun x6 x26z x26 x27 x28 => (j1 x6 x26z x26 x27 x28).map e) k x6 x26z x26 x27 x28 = (impl_Sha.l1b ret j0 j1 k x6 x26z x26 x27 x28).map e := by
  unfold impl_Sha.l1b
  repeat' first | with_reducible refine nat_cond ?_ ?_ | with_reducible refine nat_bind fun _ => ?_ | rfl
theorem impl_Sha.rounds_eq (a0z : Bool) (a0 : List Int) : ∀ k, (∀ (x3z : Bool) (x3 : List Int) (x4z : Bool) (x4 : List Int) (x5 : Int), rounds Try.prog impl_Sha.Cs (finish Try.prog [] Try.f159 [.v (.nums 5 .u8 a0z a0)]) 100000 k impl_Sha.K0 (impl_Sha.N0 x3z x3 x4z x4 x5) = (impl_Sha.l0 k x3z x3 x4z x4 x5).map impl_Sha.enc) ∧ (∀ (x6 : List Int) (x26z : Bool) (x26 : List Int) (x27 : Int) (x28 : Int), rounds Try.prog impl_Sha.Cs (finish Try.prog [] Try.f159 [.v (.nums 5 .u8 a0z a0)]) 100000 k impl_Sha.K1 (impl_Sha.N1 x6 x26z x26 x27 x28) = (impl_Sha.l1 k x6 x26z x26 x27 x28).map impl_Sha.enc)
  | 0 => ⟨fun _ _ _ _ _ => rfl, fun _ _ _ _ _ => rfl⟩
  | k + 1 => by
    have ih := impl_Sha.rounds_eq a0z a0 k
    refine ⟨fun _ _ _ _ _ => ?_, fun _ _ _ _ _ => ?_⟩
    · refine (impl_Sha.s0 k _ a0z a0 _ _ _ _ _).trans (Eq.trans ?_ (impl_Sha.l0b_nat impl_Sha.enc some (impl_Sha.l0 k) (impl_Sha.l1 k) k _ _ _ _ _))
      simp only [ih.1, ih.2, Option.map_some]
    · refine (impl_Sha.s1 k _ a0z a0 _ _ _ _ _).trans (Eq.trans ?_ (impl_Sha.l1b_nat impl_Sha.enc some (impl_Sha.l0 k) (impl_Sha.l1 k) k _ _ _ _ _))
      simp only [ih.1, ih.2, Option.map_some]
theorem impl_Sha.eq (k : Nat) (a0z : Bool) (a0 : List Int) : answer Try.prog impl_Sha.Cs 100000 impl_Sha.cuts [] Try.f159 (k + 1) [.v (.nums 5 .u8 a0z a0)] = (impl_Sha.f (k + 1) a0z a0).map impl_Sha.enc := by
  have ih := impl_Sha.rounds_eq a0z a0 k
  refine (impl_Sha.s k a0z a0).trans (Eq.trans ?_ (impl_Sha.b_nat impl_Sha.enc some (impl_Sha.l0 k) (impl_Sha.l1 k) k a0z a0))
  simp only [ih.1, ih.2, Option.map_some]
theorem impl_Sha.sound (k : Nat) : SoundF Try.prog 159 (fun a => (impl_Sha.ans k a).val) := by
  refine sound_plain (fun args res h => ?_) (fun t n => rfl)
  unfold impl_Sha.ans at h
  dsimp only at h
  split at h
  · cases k with
    | zero => cases h
    | succ k =>
      unfold Ans.val at h
      rw [← impl_Sha.eq] at h
      exact answer_sound mixed Try.func159 _ _ _ (k + 1) (fun j _ => tab_sound (tab_cons (impl_ShaInit.sound j) (tab_cons (impl_ShaPad.sound j) (tab_cons (impl_ShaBlock.sound j) (tab_nil))))) _ _ h
  · exact (Ans.no_val h).elim

/-! loop.example/g00790/impl.MacKey -/
def impl_MacKey.b {R : Type} (ret : Bool × List Int → Option R) (k : Nat) (a0z : Bool) (a0 : List Int) : Option R :=
  cond (decide (((a0).length : Int) > 64)) ((impl_Sha.f k a0z a0).bind fun t0 => ret (false, ((t0.2).take ((List.replicate 64 (0 : Int))).length ++ ((List.replicate 64 (0 : Int))).drop (t0.2).length))) (ret (false, ((a0).take ((List.replicate 64 (0 : Int))).length ++ ((List.replicate 64 (0 : Int))).drop (a0).length)))
def impl_MacKey.f : Nat → Bool → (List Int) → Option (Bool × List Int)
  | 0, _, _ => none
  | k + 1, a0z, a0 => impl_MacKey.b some k a0z a0
def impl_MacKey.enc (r : Bool × List Int) : Res := ⟨[.vals false [((.nums 5 .u8 r.1 r.2), true)]], []⟩
def impl_MacKey.ans (k : Nat) : List Arg → Ans
  | [.v (.nums 5 .u8 a0z a0)] => ⟨impl_MacKey.f k a0z a0, impl_MacKey.enc⟩
  | _ => Ans.no
def impl_MacKey.Cs (k : Nat) : CallSem := tab [(159, impl_Sha.ans k)]
def impl_MacKey.cuts : List (Nat × Keep) := []
theorem impl_MacKey.s (k : Nat) (a0z : Bool) (a0 : List Int) : answer Try.prog impl_MacKey.Cs 100000 impl_MacKey.cuts [] Try.f185 (k + 1) [.v (.nums 5 .u8 a0z a0)] = impl_MacKey.b (fun r => some (impl_MacKey.enc r)) k a0z a0 := by kernel_rfl
theorem impl_MacKey.b_nat {R R' : Type} (e : R → R') (ret : Bool × List Int → Option R) (k : Nat) (a0z : Bool) (a0 : List Int) : impl_MacKey.b (fun r => (ret r).map e) k a0z a0 = (impl_MacKey.b ret k a0z a0).map e := by
  unfold impl_MacKey.b
  repeat' first | with_reducible refine nat_cond ?_ ?_ | with_reducible refine nat_bind fun _ => ?_ | rfl
theorem impl_MacKey.eq (k : Nat) (a0z : Bool) (a0 : List Int) : answer Try.prog impl_MacKey.Cs 100000 impl_MacKey.cuts [] Try.f185 (k + 1) [.v (.nums 5 .u8 a0z a0)] = (impl_MacKey.f (k + 1) a0z a0).map impl_MacKey.enc := by
  refine (impl_MacKey.s k a0z a0).trans (Eq.trans ?_ (impl_MacKey.b_nat impl_MacKey.enc some k a0z a0))
  simp only [Option.map_some]
theorem impl_MacKey.sound (k : Nat) : SoundF Try.prog 185 (fun a => (impl_MacKey.ans k a).val) := by
  refine sound_plain (fun args res h => ?_) (fun t n => rfl)
  unfold impl_MacKey.ans at h
  dsimp only at h
  split at h
  · cases k with
    | zero => cases h
    | succ k =>
      unfold Ans.val at h
      rw [← impl_MacKey.eq] at h
      exact answer_sound mixed Try.func185 _ _ _ (k + 1) (fun j _ => tab_sound (tab_cons (impl_Sha.sound j) (tab_nil))) _ _ h
  · exact (Ans.no_val h).elim

/-! loop.example/g00790/impl.masked -/
def impl_masked.b {R : Type} (ret : Bool × List Int → Option R) (j0 : Int → (List Int) → Bool → (List Int) → Int → Int → Option R) (k : Nat) (a0z : Bool) (a0 : List Int) (a1 : Int) : Option R :=
  j0 a1 ([] : List Int) a0z a0 ((a0).length : Int) 0
def impl_masked.l0b {R : Type} (ret : Bool × List Int → Option R) (j0 : Int → (List Int) → Bool → (List Int) → Int → Int → Option R) (k : Nat) (x1 : Int) (x5 : List Int) (x9z : Bool) (x9 : List Int) (x10 : Int) (x11 : Int) : Option R :=
  cond (decide (x11 < x10)) (cond (decide ((0 : Int) ≤ x11)) (cond (decide (x11 < ((x9).length : Int))) (cond (decide ((x5).length + 1 < 140737488355328)) (j0 x1 (x5 ++ ([(Go.bits .xor .u8 (rdI x9 x11) x1)] : List Int)) x9z x9 x10 (RowKit.wrap64 (x11 + 1))) (none)) (none)) (none)) (ret (false, x5))
def impl_masked.l0 : Nat → Int → (List Int) → Bool → (List Int) → Int → Int → Option (Bool × List Int)
  | 0, _, _, _, _, _, _ => none
  | k + 1, x1, x5, x9z, x9, x10, x11 => impl_masked.l0b some (impl_masked.l0 k) k x1 x5 x9z x9 x10 x11
def impl_masked.f : Nat → Bool → (List Int) → Int → Option (Bool × List Int)
  | 0, _, _, _ => none
  | k + 1, a0z, a0, a1 => impl_masked.b some (impl_masked.l0 k) k a0z a0 a1
def impl_masked.enc (r : Bool × List Int) : Res := ⟨[.vals false [((.nums 5 .u8 r.1 r.2), true)]], []⟩
def impl_masked.ans (k : Nat) : List Arg → Ans
  | [.v (.nums 5 .u8 a0z a0), .v (.int .u8 a1)] => ⟨impl_masked.f k a0z a0 a1, impl_masked.enc⟩
  | _ => Ans.no
def impl_masked.Cs (k : Nat) : CallSem := tab []
def impl_masked.cuts : List (Nat × Keep) := [(58, ⟨[(1, some []), (5, none), (9, some []), (10, some []), (11, some [])], []⟩)]
noncomputable def impl_masked.K0 : List Fr := framesAt [true, true, false, true, false] (bodyOf Try.f186 impl_masked.cuts) []
def impl_masked.N0 (x1 : Int) (x5 : List Int) (x9z : Bool) (x9 : List Int) (x10 : Int) (x11 : Int) : St := stOf 23 23 2 [(1, .val (V.s (.int .u8 x1))), (5, .val ⟨(.nums 5 .u8 false x5), [.l 5 0], true, some (.l 5 0)⟩), (9, .val ⟨(.nums 5 .u8 x9z x9), [], false, none⟩), (10, .val (V.s (.int .i64 x10))), (11, .val (V.s (.int .i64 x11)))] []
theorem impl_masked.s (k : Nat) (a0z : Bool) (a0 : List Int) (a1 : Int) : answer Try.prog impl_masked.Cs 100000 impl_masked.cuts [] Try.f186 (k + 1) [.v (.nums 5 .u8 a0z a0), .v (.int .u8 a1)] = impl_masked.b (fun r => some (impl_masked.enc r)) (fun x1 x5 x9z x9 x10 x11 => rounds Try.prog impl_masked.Cs (finish Try.prog [] Try.f186 [.v (.nums 5 .u8 a0z a0), .v (.int .u8 a1)]) 100000 k impl_masked.K0 (impl_masked.N0 x1 x5 x9z x9 x10 x11)) k a0z a0 a1 := by kernel_rfl
theorem impl_masked.s0 (k : Nat) (G : List Fr → St → Option Res) (a0z : Bool) (a0 : List Int) (a1 : Int) (yx1 : Int) (yx5 : List Int) (yx9z : Bool) (yx9 : List Int) (yx10 : Int) (yx11 : Int) : resume Try.prog (impl_masked.Cs k) G (finish Try.prog [] Try.f186 [.v (.nums 5 .u8 a0z a0), .v (.int .u8 a1)]) 100000 impl_masked.K0 (impl_masked.N0 yx1 yx5 yx9z yx9 yx10 yx11) = impl_masked.l0b (fun r => some (impl_masked.enc r)) (fun x1 x5 x9z x9 x10 x11 => G impl_masked.K0 (impl_masked.N0 x1 x5 x9z x9 x10 x11)) k yx1 yx5 yx9z yx9 yx10 yx11 := by kernel_rfl
theorem impl_masked.b_nat {R R' : Type} (e : R → R') (ret : Bool × List Int → Option R) (j0 : Int → (List Int) → Bool → (List Int) → Int → Int → Option R) (k : Nat) (a0z : Bool) (a0 : List Int) (a1 : Int) : impl_masked.b (fun r => (ret r).map e) (fun x1 x5 x9z x9 x10 x11 => (j0 x1 x5 x9z x9 x10 x11).map e) k a0z a0 a1 = (impl_masked.b ret j0 k a0z a0 a1).map e := by
  unfold impl_masked.b
  repeat' first | with_reducible refine nat_cond ?_ ?_ | with_reducible refine nat_bind fun _ => ?_ | rfl
theorem impl_masked.l0b_nat {R R' : Type} (e : R → R') (ret : Bool × List Int → Option R) (j0 : Int → (List Int) → Bool → (List Int) → Int → Int → Option R) (k : Nat) (x1 : Int) (x5 : List Int) (x9z : Bool) (x9 : List Int) (x10 : Int) (x11 : Int) : impl_masked.l0b (fun r => (ret r).map e) (fun x1 x5 x9z x9 x10 x11 => (j0 x1 x5 x9z x9 x10 x11).map e) k x1 x5 x9z x9 x10 x11 = (impl_masked.l0b ret j0 k x1 x5 x9z x9 x10 x11).map e := by
  unfold impl_masked.l0b
  repeat' first | with_reducible refine nat_cond ?_ ?_ | with_reducible refine nat_bind fun _ => ?_ | rfl
theorem impl_masked.rounds_eq (a0z : Bool) (a0 : List Int) (a1 : Int) : ∀ k, (∀ (x1 : Int) (x5 : List Int) (x9z : Bool) (x9 : List Int) (x10 : Int) (x11 : Int), rounds Try.prog impl_masked.Cs (finish Try.prog [] Try.f186 [.v (.nums 5 .u8 a0z a0), .v (.int .u8 a1)]) 100000 k impl_masked.K0 (impl_masked.N0 x1 x5 x9z x9 x10 x11) = (impl_masked.l0 k x1 x5 x9z x9 x10 x11).map impl_masked.enc)
  | 0 => fun _ _ _ _ _ _ => rfl
  | k + 1 => by
    have ih := impl_masked.rounds_eq a0z a0 a1 k
    refine fun _ _ _ _ _ _ => ?_
    · refine (impl_masked.s0 k _ a0z a0 a1 _ _ _ _ _ _).trans (Eq.trans ?_ (impl_masked.l0b_nat impl_masked.enc some (impl_masked.l0 k) k _ _ _ _ _ _))
      simp only [ih, Option.map_some]
theorem impl_masked.eq (k : Nat) (a0z : Bool) (a0 : List Int) (a1 : Int) : answer Try.prog impl_masked.Cs 100000 impl_masked.cuts [] Try.f186 (k + 1) [.v (.nums 5 .u8 a0z a0), .v (.int .u8 a1)] = (impl_masked.f (k + 1) a0z a0 a1).map impl_masked.enc := by
  have ih := impl_masked.rounds_eq a0z a0 a1 k
  refine (impl_masked.s k a0z a0 a1).trans (Eq.trans ?_ (impl_masked.b_nat impl_masked.enc some (impl_masked.l0 k) k a0z a0 a1))
  simp only [ih, Option.map_some]
theorem impl_masked.sound (k : Nat) : SoundF Try.prog 186 (fun a => (impl_masked.ans k a).val) := by
  refine sound_plain (fun args res h => ?_) (fun t n => rfl)
  unfold impl_masked.ans at h
  dsimp only at h
  split at h
  · cases k with
    | zero => cases h
    | succ k =>
      unfold Ans.val at h
      rw [← impl_masked.eq] at h
      exact answer_sound mixed Try.func186 _ _ _ (k + 1) (fun j _ => tab_sound (tab_nil)) _ _ h
  · exact (Ans.no_val h).elim

/-! loop.example/g00790/impl.Mac -/
def impl_Mac.b {R : Type} (ret : Bool × List Int → Option R) (k : Nat) (a0z : Bool) (a0 : List Int) (a1z : Bool) (a1 : List Int) : Option R :=
  (impl_MacKey.f k a0z a0).bind fun t0 => (impl_masked.f k t0.1 t0.2 92).bind fun t1 => (impl_masked.f k t0.1 t0.2 54).bind fun t2 => cond (decide ((t2.2).length + (a1).length < 140737488355328)) ((impl_Sha.f k ((a1).isEmpty && t2.1) (t2.2 ++ a1)).bind fun t3 => cond (decide ((t1.2).length + (t3.2).length < 140737488355328)) ((impl_Sha.f k ((t3.2).isEmpty && t1.1) (t1.2 ++ t3.2)).bind fun t4 => ret (t4.1, t4.2)) (none)) (none)
def impl_Mac.f : Nat → Bool → (List Int) → Bool → (List Int) → Option (Bool × List Int)
  | 0, _, _, _, _ => none
  | k + 1, a0z, a0, a1z, a1 => impl_Mac.b some k a0z a0 a1z a1
def impl_Mac.enc (r : Bool × List Int) : Res := ⟨[.vals false [((.nums 5 .u8 r.1 r.2), true)]], []⟩
def impl_Mac.ans (k : Nat) : List Arg → Ans
  | [.v (.nums 5 .u8 a0z a0), .v (.nums 5 .u8 a1z a1)] => ⟨impl_Mac.f k a0z a0 a1z a1, impl_Mac.enc⟩
  | _ => Ans.no
def impl_Mac.Cs (k : Nat) : CallSem := tab [(185, impl_MacKey.ans k), (159, impl_Sha.ans k), (186, impl_masked.ans k)]
def impl_Mac.cuts : List (Nat × Keep) := []
theorem impl_Mac.s (k : Nat) (a0z : Bool) (a0 : List Int) (a1z : Bool) (a1 : List Int) : answer Try.prog impl_Mac.Cs 100000 impl_Mac.cuts [] Try.f127 (k + 1) [.v (.nums 5 .u8 a0z a0), .v (.nums 5 .u8 a1z a1)] = impl_Mac.b (fun r => some (impl_Mac.enc r)) k a0z a0 a1z a1 := by kernel_rfl
theorem impl_Mac.b_nat {R R' : Type} (e : R → R') (ret : Bool × List Int → Option R) (k : Nat) (a0z : Bool) (a0 : List Int) (a1z : Bool) (a1 : List Int) : impl_Mac.b (fun r => (ret r).map e) k a0z a0 a1z a1 = (impl_Mac.b ret k a0z a0 a1z a1).map e := by
  unfold impl_Mac.b
  repeat' first | with_reducible refine nat_cond ?_ ?_ | with_reducible refine nat_bind fun _ => ?_ | rfl
theorem impl_Mac.eq (k : Nat) (a0z : Bool) (a0 : List Int) (a1z : Bool) (a1 : List Int) : answer Try.prog impl_Mac.Cs 100000 impl_Mac.cuts [] Try.f127 (k + 1) [.v (.nums 5 .u8 a0z a0), .v (.nums 5 .u8 a1z a1)] = (impl_Mac.f (k + 1) a0z a0 a1z a1).map impl_Mac.enc := by
  refine (impl_Mac.s k a0z a0 a1z a1).trans (Eq.trans ?_ (impl_Mac.b_nat impl_Mac.enc some k a0z a0 a1z a1))
  simp only [Option.map_some]
theorem impl_Mac.sound (k : Nat) : SoundF Try.prog 127 (fun a => (impl_Mac.ans k a).val) := by
  refine sound_plain (fun args res h => ?_) (fun t n => rfl)
  unfold impl_Mac.ans at h
  dsimp only at h
  split at h
  · cases k with
    | zero => cases h
    | succ k =>
      unfold Ans.val at h
      rw [← impl_Mac.eq] at h
      exact answer_sound mixed Try.func127 _ _ _ (k + 1) (fun j _ => tab_sound (tab_cons (impl_MacKey.sound j) (tab_cons (impl_Sha.sound j) (tab_cons (impl_masked.sound j) (tab_nil))))) _ _ h
  · exact (Ans.no_val h).elim

/-! loop.example/g00790/impl.SignLeave -/
def impl_SignLeave.b {R : Type} (ret : Int × Int × Bool × (List Int) × Bool → Option R) (k : Nat) (a0_0z : Bool) (a0_0 : List T) (a1 : Int) (a2 : Int) (a3 : Int) : Option R :=
  (impl_LeaveBytes.f k a1 a2).bind fun t0 => (impl_TableOk.f k a0_0z a0_0).bind fun t1 => cond (!t1) (ret (0, 0, true, ([] : List Int), false)) (cond t0.1 (ret (0, 0, true, ([] : List Int), false)) ((impl_within.f k a3 0 (RowKit.wrap64 (((a0_0).length : Int) - 1))).bind fun t2 => cond (!t2) (ret (0, 0, true, ([] : List Int), false)) (cond (decide (a2 ≥ a1)) (ret (0, 0, true, ([] : List Int), false)) (cond (decide ((0 : Int) ≤ a3)) (cond (decide (a3 < ((a0_0).length : Int))) ((impl_Mac.f k (((((a0_0).getD (a3).toNat .bad).cells.getD 1 .bad)).isNil) (((((a0_0).getD (a3).toNat .bad).cells.getD 1 .bad)).toNums) t0.1 t0.2).bind fun t3 => ret (a3, a2, t3.1, t3.2, true)) (none)) (none)))))
def impl_SignLeave.f : Nat → Bool → (List T) → Int → Int → Int → Option (Int × Int × Bool × (List Int) × Bool)
  | 0, _, _, _, _, _ => none
  | k + 1, a0_0z, a0_0, a1, a2, a3 => impl_SignLeave.b some k a0_0z a0_0 a1 a2 a3
def impl_SignLeave.enc (r : Int × Int × Bool × (List Int) × Bool) : Res := ⟨[.vals true [((.int .i64 r.1), true), ((.int .i64 r.2.1), true), ((.nums 5 .u8 r.2.2.1 r.2.2.2.1), true)], .vals false [((.bool r.2.2.2.2), true)]], []⟩
def impl_SignLeave.ans (k : Nat) : List Arg → Ans
  | [.v (.agg [(.sl 160 a0_0z a0_0)]), .v (.int .i64 a1), .v (.int .i64 a2), .v (.int .i64 a3)] => ⟨impl_SignLeave.f k a0_0z a0_0 a1 a2 a3, impl_SignLeave.enc⟩
  | _ => Ans.no
def impl_SignLeave.Cs (k : Nat) : CallSem := tab [(126, impl_within.ans k), (125, impl_TableOk.ans k), (124, impl_LeaveBytes.ans k), (127, impl_Mac.ans k)]
def impl_SignLeave.cuts : List (Nat × Keep) := []
theorem impl_SignLeave.s (k : Nat) (a0_0z : Bool) (a0_0 : List T) (a1 : Int) (a2 : Int) (a3 : Int) : answer Try.prog impl_SignLeave.Cs 100000 impl_SignLeave.cuts [] Try.f44 (k + 1) [.v (.agg [(.sl 160 a0_0z a0_0)]), .v (.int .i64 a1), .v (.int .i64 a2), .v (.int .i64 a3)] = impl_SignLeave.b (fun r => some (impl_SignLeave.enc r)) k a0_0z a0_0 a1 a2 a3 := by kernel_rfl
theorem impl_SignLeave.b_nat {R R' : Type} (e : R → R') (ret : Int × Int × Bool × (List Int) × Bool → Option R) (k : Nat) (a0_0z : Bool) (a0_0 : List T) (a1 : Int) (a2 : Int) (a3 : Int) : impl_SignLeave.b (fun r => (ret r).map e) k a0_0z a0_0 a1 a2 a3 = (impl_SignLeave.b ret k a0_0z a0_0 a1 a2 a3).map e := by
  unfold impl_SignLeave.b
  repeat' first | with_reducible refine nat_cond ?_ ?_ | with_reducible refine nat_bind fun _ => ?_ | rfl
theorem impl_SignLeave.eq (k : Nat) (a0_0z : Bool) (a0_0 : List T) (a1 : Int) (a2 : Int) (a3 : Int) : answer Try.prog impl_SignLeave.Cs 100000 impl_SignLeave.cuts [] Try.f44 (k + 1) [.v (.agg [(.sl 160 a0_0z a0_0)]), .v (.int .i64 a1), .v (.int .i64 a2), .v (.int .i64 a3)] = (impl_SignLeave.f (k + 1) a0_0z a0_0 a1 a2 a3).map impl_SignLeave.enc := by
  refine (impl_SignLeave.s k a0_0z a0_0 a1 a2 a3).trans (Eq.trans ?_ (impl_SignLeave.b_nat impl_SignLeave.enc some k a0_0z a0_0 a1 a2 a3))
  simp only [Option.map_some]
theorem impl_SignLeave.sound (k : Nat) : SoundF Try.prog 44 (fun a => (impl_SignLeave.ans k a).val) := by
  refine sound_plain (fun args res h => ?_) (fun t n => rfl)
  unfold impl_SignLeave.ans at h
  dsimp only at h
  split at h
  · cases k with
    | zero => cases h
    | succ k =>
      unfold Ans.val at h
      rw [← impl_SignLeave.eq] at h
      exact answer_sound mixed Try.func44 _ _ _ (k + 1) (fun j _ => tab_sound (tab_cons (impl_within.sound j) (tab_cons (impl_TableOk.sound j) (tab_cons (impl_LeaveBytes.sound j) (tab_cons (impl_Mac.sound j) (tab_nil)))))) _ _ h
  · exact (Ans.no_val h).elim

/-! loop.example/g00790/impl.SameBytes -/
def impl_SameBytes.b {R : Type} (ret : Bool → Option R) (k : Nat) (a0z : Bool) (a0 : List Int) (a1z : Bool) (a1 : List Int) : Option R :=
  ret (decide ((strOf a0) = (strOf a1)))
def impl_SameBytes.f : Nat → Bool → (List Int) → Bool → (List Int) → Option Bool
  | 0, _, _, _, _ => none
  | k + 1, a0z, a0, a1z, a1 => impl_SameBytes.b some k a0z a0 a1z a1
def impl_SameBytes.enc (r : Bool) : Res := ⟨[.vals false [((.bool r), true)]], []⟩
def impl_SameBytes.ans (k : Nat) : List Arg → Ans
  | [.v (.nums 5 .u8 a0z a0), .v (.nums 5 .u8 a1z a1)] => ⟨impl_SameBytes.f k a0z a0 a1z a1, impl_SameBytes.enc⟩
  | _ => Ans.no
def impl_SameBytes.Cs (k : Nat) : CallSem := tab []
def impl_SameBytes.cuts : List (Nat × Keep) := []
theorem impl_SameBytes.s (k : Nat) (a0z : Bool) (a0 : List Int) (a1z : Bool) (a1 : List Int) : answer Try.prog impl_SameBytes.Cs 100000 impl_SameBytes.cuts [] Try.f84 (k + 1) [.v (.nums 5 .u8 a0z a0), .v (.nums 5 .u8 a1z a1)] = impl_SameBytes.b (fun r => some (impl_SameBytes.enc r)) k a0z a0 a1z a1 := by kernel_rfl
theorem impl_SameBytes.b_nat {R R' : Type} (e : R → R') (ret : Bool → Option R) (k : Nat) (a0z : Bool) (a0 : List Int) (a1z : Bool) (a1 : List Int) : impl_SameBytes.b (fun r => (ret r).map e) k a0z a0 a1z a1 = (impl_SameBytes.b ret k a0z a0 a1z a1).map e := by
  unfold impl_SameBytes.b
  repeat' first | with_reducible refine nat_cond ?_ ?_ | with_reducible refine nat_bind fun _ => ?_ | rfl
theorem impl_SameBytes.eq (k : Nat) (a0z : Bool) (a0 : List Int) (a1z : Bool) (a1 : List Int) : answer Try.prog impl_SameBytes.Cs 100000 impl_SameBytes.cuts [] Try.f84 (k + 1) [.v (.nums 5 .u8 a0z a0), .v (.nums 5 .u8 a1z a1)] = (impl_SameBytes.f (k + 1) a0z a0 a1z a1).map impl_SameBytes.enc := by
  refine (impl_SameBytes.s k a0z a0 a1z a1).trans (Eq.trans ?_ (impl_SameBytes.b_nat impl_SameBytes.enc some k a0z a0 a1z a1))
  simp only [Option.map_some]
theorem impl_SameBytes.sound (k : Nat) : SoundF Try.prog 84 (fun a => (impl_SameBytes.ans k a).val) := by
  refine sound_plain (fun args res h => ?_) (fun t n => rfl)
  unfold impl_SameBytes.ans at h
  dsimp only at h
  split at h
  · cases k with
    | zero => cases h
    | succ k =>
      unfold Ans.val at h
      rw [← impl_SameBytes.eq] at h
      exact answer_sound mixed Try.func84 _ _ _ (k + 1) (fun j _ => tab_sound (tab_nil)) _ _ h
  · exact (Ans.no_val h).elim

/-! loop.example/g00790/impl.entrySame -/
def impl_entrySame.b {R : Type} (ret : Bool → Option R) (k : Nat) (a0_0 : Int) (a0_1 : Int) (a0_2z : Bool) (a0_2 : List Int) (a1_0 : Int) (a1_1 : Int) (a1_2z : Bool) (a1_2 : List Int) : Option R :=
  cond (decide (a0_0 = a1_0)) (cond (decide (a0_1 = a1_1)) ((impl_SameBytes.f k a0_2z a0_2 a1_2z a1_2).bind fun t0 => ret t0) (ret false)) (ret false)
def impl_entrySame.f : Nat → Int → Int → Bool → (List Int) → Int → Int → Bool → (List Int) → Option Bool
  | 0, _, _, _, _, _, _, _, _ => none
  | k + 1, a0_0, a0_1, a0_2z, a0_2, a1_0, a1_1, a1_2z, a1_2 => impl_entrySame.b some k a0_0 a0_1 a0_2z a0_2 a1_0 a1_1 a1_2z a1_2
def impl_entrySame.enc (r : Bool) : Res := ⟨[.vals false [((.bool r), true)]], []⟩
def impl_entrySame.ans (k : Nat) : List Arg → Ans
  | [.v (.agg [(.int .i64 a0_0), (.int .i64 a0_1), (.nums 5 .u8 a0_2z a0_2)]), .v (.agg [(.int .i64 a1_0), (.int .i64 a1_1), (.nums 5 .u8 a1_2z a1_2)])] => ⟨impl_entrySame.f k a0_0 a0_1 a0_2z a0_2 a1_0 a1_1 a1_2z a1_2, impl_entrySame.enc⟩
  | _ => Ans.no
def impl_entrySame.Cs (k : Nat) : CallSem := tab [(84, impl_SameBytes.ans k)]
def impl_entrySame.cuts : List (Nat × Keep) := []
theorem impl_entrySame.s (k : Nat) (a0_0 : Int) (a0_1 : Int) (a0_2z : Bool) (a0_2 : List Int) (a1_0 : Int) (a1_1 : Int) (a1_2z : Bool) (a1_2 : List Int) : answer Try.prog impl_entrySame.Cs 100000 impl_entrySame.cuts [] Try.f180 (k + 1) [.v (.agg [(.int .i64 a0_0), (.int .i64 a0_1), (.nums 5 .u8 a0_2z a0_2)]), .v (.agg [(.int .i64 a1_0), (.int .i64 a1_1), (.nums 5 .u8 a1_2z a1_2)])] = impl_entrySame.b (fun r => some (impl_entrySame.enc r)) k a0_0 a0_1 a0_2z a0_2 a1_0 a1_1 a1_2z a1_2 := by kernel_rfl
theorem impl_entrySame.b_nat {R R' : Type} (e : R → R') (ret : Bool → Option R) (k : Nat) (a0_0 : Int) (a0_1 : Int) (a0_2z : Bool) (a0_2 : List Int) (a1_0 : Int) (a1_1 : Int) (a1_2z : Bool) (a1_2 : List Int) : impl_entrySame.b (fun r => (ret r).map e) k a0_0 a0_1 a0_2z a0_2 a1_0 a1_1 a1_2z a1_2 = (impl_entrySame.b ret k a0_0 a0_1 a0_2z a0_2 a1_0 a1_1 a1_2z a1_2).map e := by
  unfold impl_entrySame.b
  repeat' first | with_reducible refine nat_cond ?_ ?_ | with_reducible refine nat_bind fun _ => ?_ | rfl
theorem impl_entrySame.eq (k : Nat) (a0_0 : Int) (a0_1 : Int) (a0_2z : Bool) (a0_2 : List Int) (a1_0 : Int) (a1_1 : Int) (a1_2z : Bool) (a1_2 : List Int) : answer Try.prog impl_entrySame.Cs 100000 impl_entrySame.cuts [] Try.f180 (k + 1) [.v (.agg [(.int .i64 a0_0), (.int .i64 a0_1), (.nums 5 .u8 a0_2z a0_2)]), .v (.agg [(.int .i64 a1_0), (.int .i64 a1_1), (.nums 5 .u8 a1_2z a1_2)])] = (impl_entrySame.f (k + 1) a0_0 a0_1 a0_2z a0_2 a1_0 a1_1 a1_2z a1_2).map impl_entrySame.enc := by
  refine (impl_entrySame.s k a0_0 a0_1 a0_2z a0_2 a1_0 a1_1 a1_2z a1_2).trans (Eq.trans ?_ (impl_entrySame.b_nat impl_entrySame.enc some k a0_0 a0_1 a0_2z a0_2 a1_0 a1_1 a1_2z a1_2))
  simp only [Option.map_some]
theorem impl_entrySame.sound (k : Nat) : SoundF Try.prog 180 (fun a => (impl_entrySame.ans k a).val) := by
  refine sound_plain (fun args res h => ?_) (fun t n => rfl)
  unfold impl_entrySame.ans at h
  dsimp only at h
  split at h
  · cases k with
    | zero => cases h
    | succ k =>
      unfold Ans.val at h
      rw [← impl_entrySame.eq] at h
      exact answer_sound mixed Try.func180 _ _ _ (k + 1) (fun j _ => tab_sound (tab_cons (impl_SameBytes.sound j) (tab_nil))) _ _ h
  · exact (Ans.no_val h).elim

/-! loop.example/g00790/impl.EntryGood -/
def impl_EntryGood.b {R : Type} (ret : Bool → Option R) (k : Nat) (a0_0z : Bool) (a0_0 : List T) (a1 : Int) (a2_0 : Int) (a2_1 : Int) (a2_2z : Bool) (a2_2 : List Int) : Option R :=
  (impl_SignLeave.f k a0_0z a0_0 a1 a2_1 a2_0).bind fun t0 => cond t0.2.2.2.2 ((impl_entrySame.f k t0.1 t0.2.1 t0.2.2.1 t0.2.2.2.1 a2_0 a2_1 a2_2z a2_2).bind fun t1 => ret t1) (ret false)
def impl_EntryGood.f : Nat → Bool → (List T) → Int → Int → Int → Bool → (List Int) → Option Bool
  | 0, _, _, _, _, _, _, _ => none
  | k + 1, a0_0z, a0_0, a1, a2_0, a2_1, a2_2z, a2_2 => impl_EntryGood.b some k a0_0z a0_0 a1 a2_0 a2_1 a2_2z a2_2
def impl_EntryGood.enc (r : Bool) : Res := ⟨[.vals false [((.bool r), true)]], []⟩
def impl_EntryGood.ans (k : Nat) : List Arg → Ans
  | [.v (.agg [(.sl 160 a0_0z a0_0)]), .v (.int .i64 a1), .v (.agg [(.int .i64 a2_0), (.int .i64 a2_1), (.nums 5 .u8 a2_2z a2_2)])] => ⟨impl_EntryGood.f k a0_0z a0_0 a1 a2_0 a2_1 a2_2z a2_2, impl_EntryGood.enc⟩
  | _ => Ans.no
def impl_EntryGood.Cs (k : Nat) : CallSem := tab [(44, impl_SignLeave.ans k), (180, impl_entrySame.ans k)]
def impl_EntryGood.cuts : List (Nat × Keep) := []
theorem impl_EntryGood.s (k : Nat) (a0_0z : Bool) (a0_0 : List T) (a1 : Int) (a2_0 : Int) (a2_1 : Int) (a2_2z : Bool) (a2_2 : List Int) : answer Try.prog impl_EntryGood.Cs 100000 impl_EntryGood.cuts [] Try.f117 (k + 1) [.v (.agg [(.sl 160 a0_0z a0_0)]), .v (.int .i64 a1), .v (.agg [(.int .i64 a2_0), (.int .i64 a2_1), (.nums 5 .u8 a2_2z a2_2)])] = impl_EntryGood.b (fun r => some (impl_EntryGood.enc r)) k a0_0z a0_0 a1 a2_0 a2_1 a2_2z a2_2 := by kernel_rfl
theorem impl_EntryGood.b_nat {R R' : Type} (e : R → R') (ret : Bool → Option R) (k : Nat) (a0_0z : Bool) (a0_0 : List T) (a1 : Int) (a2_0 : Int) (a2_1 : Int) (a2_2z : Bool) (a2_2 : List Int) : impl_EntryGood.b (fun r => (ret r).map e) k a0_0z a0_0 a1 a2_0 a2_1 a2_2z a2_2 = (impl_EntryGood.b ret k a0_0z a0_0 a1 a2_0 a2_1 a2_2z a2_2).map e := by
  unfold impl_EntryGood.b
  repeat' first | with_reducible refine nat_cond ?_ ?_ | with_reducible refine nat_bind fun _ => ?_ | rfl
theorem impl_EntryGood.eq (k : Nat) (a0_0z : Bool) (a0_0 : List T) (a1 : Int) (a2_0 : Int) (a2_1 : Int) (a2_2z : Bool) (a2_2 : List Int) : answer Try.prog impl_EntryGood.Cs 100000 impl_EntryGood.cuts [] Try.f117 (k + 1) [.v (.agg [(.sl 160 a0_0z a0_0)]), .v (.int .i64 a1), .v (.agg [(.int .i64 a2_0), (.int .i64 a2_1), (.nums 5 .u8 a2_2z a2_2)])] = (impl_EntryGood.f (k + 1) a0_0z a0_0 a1 a2_0 a2_1 a2_2z a2_2).map impl_EntryGood.enc := by
  refine (impl_EntryGood.s k a0_0z a0_0 a1 a2_0 a2_1 a2_2z a2_2).trans (Eq.trans ?_ (impl_EntryGood.b_nat impl_EntryGood.enc some k a0_0z a0_0 a1 a2_0 a2_1 a2_2z a2_2))
  simp only [Option.map_some]
theorem impl_EntryGood.sound (k : Nat) : SoundF Try.prog 117 (fun a => (impl_EntryGood.ans k a).val) := by
  refine sound_plain (fun args res h => ?_) (fun t n => rfl)
  unfold impl_EntryGood.ans at h
  dsimp only at h
  split at h
  · cases k with
    | zero => cases h
    | succ k =>
      unfold Ans.val at h
      rw [← impl_EntryGood.eq] at h
      exact answer_sound mixed Try.func117 _ _ _ (k + 1) (fun j _ => tab_sound (tab_cons (impl_SignLeave.sound j) (tab_cons (impl_entrySame.sound j) (tab_nil)))) _ _ h
  · exact (Ans.no_val h).elim

/-! loop.example/g00790/impl.BitsSize -/
def impl_BitsSize.b {R : Type} (ret : Int → Option R) (k : Nat) (a0 : Int) : Option R :=
  cond (decide (a0 < 1)) (ret 0) (ret (RowKit.wrap64 ((RowKit.wrap64 (Int.tdiv (RowKit.wrap64 (a0 - 1)) 8)) + 1)))
def impl_BitsSize.f : Nat → Int → Option Int
  | 0, _ => none
  | k + 1, a0 => impl_BitsSize.b some k a0
def impl_BitsSize.enc (r : Int) : Res := ⟨[.vals false [((.int .i64 r), true)]], []⟩
def impl_BitsSize.ans (k : Nat) : List Arg → Ans
  | [.v (.int .i64 a0)] => ⟨impl_BitsSize.f k a0, impl_BitsSize.enc⟩
  | _ => Ans.no
def impl_BitsSize.Cs (k : Nat) : CallSem := tab []
def impl_BitsSize.cuts : List (Nat × Keep) := []
theorem impl_BitsSize.s (k : Nat) (a0 : Int) : answer Try.prog impl_BitsSize.Cs 100000 impl_BitsSize.cuts [] Try.f189 (k + 1) [.v (.int .i64 a0)] = impl_BitsSize.b (fun r => some (impl_BitsSize.enc r)) k a0 := by kernel_rfl
theorem impl_BitsSize.b_nat {R R' : Type} (e : R → R') (ret : Int → Option R) (k : Nat) (a0 : Int) : impl_BitsSize.b (fun r => (ret r).map e) k a0 = (impl_BitsSize.b ret k a0).map e := by
  unfold impl_BitsSize.b
  repeat' first | with_reducible refine nat_cond ?_ ?_ | with_reducible refine nat_bind fun _ => ?_ | rfl
theorem impl_BitsSize.eq (k : Nat) (a0 : Int) : answer Try.prog impl_BitsSize.Cs 100000 impl_BitsSize.cuts [] Try.f189 (k + 1) [.v (.int .i64 a0)] = (impl_BitsSize.f (k + 1) a0).map impl_BitsSize.enc := by
  refine (impl_BitsSize.s k a0).trans (Eq.trans ?_ (impl_BitsSize.b_nat impl_BitsSize.enc some k a0))
  simp only [Option.map_some]
theorem impl_BitsSize.sound (k : Nat) : SoundF Try.prog 189 (fun a => (impl_BitsSize.ans k a).val) := by
  refine sound_plain (fun args res h => ?_) (fun t n => rfl)
  unfold impl_BitsSize.ans at h
  dsimp only at h
  split at h
  · cases k with
    | zero => cases h
    | succ k =>
      unfold Ans.val at h
      rw [← impl_BitsSize.eq] at h
      exact answer_sound mixed Try.func189 _ _ _ (k + 1) (fun j _ => tab_sound (tab_nil)) _ _ h
  · exact (Ans.no_val h).elim

/-! loop.example/g00790/impl.BitsNew -/
def impl_BitsNew.b {R : Type} (ret : Bool × List Int → Option R) (k : Nat) (a0 : Int) : Option R :=
  (impl_within.f k a0 1 10).bind fun t0 => cond (!t0) (ret (true, ([] : List Int))) ((impl_BitsSize.f k a0).bind fun t1 => cond (decide (t1 = t1)) (cond (decide ((0 : Int) ≤ t1)) (cond (decide ((t1).toNat < 140737488355328)) (ret (false, (List.replicate (t1).toNat (0 : Int)))) (none)) (none)) (none))
def impl_BitsNew.f : Nat → Int → Option (Bool × List Int)
  | 0, _ => none
  | k + 1, a0 => impl_BitsNew.b some k a0
def impl_BitsNew.enc (r : Bool × List Int) : Res := ⟨[.vals false [((.nums 5 .u8 r.1 r.2), true)]], []⟩
def impl_BitsNew.ans (k : Nat) : List Arg → Ans
  | [.v (.int .i64 a0)] => ⟨impl_BitsNew.f k a0, impl_BitsNew.enc⟩
  | _ => Ans.no
def impl_BitsNew.Cs (k : Nat) : CallSem := tab [(126, impl_within.ans k), (189, impl_BitsSize.ans k)]
def impl_BitsNew.cuts : List (Nat × Keep) := []
theorem impl_BitsNew.s (k : Nat) (a0 : Int) : answer Try.prog impl_BitsNew.Cs 100000 impl_BitsNew.cuts [] Try.f208 (k + 1) [.v (.int .i64 a0)] = impl_BitsNew.b (fun r => some (impl_BitsNew.enc r)) k a0 := by kernel_rfl
theorem impl_BitsNew.b_nat {R R' : Type} (e : R → R') (ret : Bool × List Int → Option R) (k : Nat) (a0 : Int) : impl_BitsNew.b (fun r => (ret r).map e) k a0 = (impl_BitsNew.b ret k a0).map e := by
  unfold impl_BitsNew.b
  repeat' first | with_reducible refine nat_cond ?_ ?_ | with_reducible refine nat_bind fun _ => ?_ | rfl
theorem impl_BitsNew.eq (k : Nat) (a0 : Int) : answer Try.prog impl_BitsNew.Cs 100000 impl_BitsNew.cuts [] Try.f208 (k + 1) [.v (.int .i64 a0)] = (impl_BitsNew.f (k + 1) a0).map impl_BitsNew.enc := by
  refine (impl_BitsNew.s k a0).trans (Eq.trans ?_ (impl_BitsNew.b_nat impl_BitsNew.enc some k a0))
  simp only [Option.map_some]
theorem impl_BitsNew.sound (k : Nat) : SoundF Try.prog 208 (fun a => (impl_BitsNew.ans k a).val) := by
  refine sound_plain (fun args res h => ?_) (fun t n => rfl)
  unfold impl_BitsNew.ans at h
  dsimp only at h
  split at h
  · cases k with
    | zero => cases h
    | succ k =>
      unfold Ans.val at h
      rw [← impl_BitsNew.eq] at h
      exact answer_sound mixed Try.func208 _ _ _ (k + 1) (fun j _ => tab_sound (tab_cons (impl_within.sound j) (tab_cons (impl_BitsSize.sound j) (tab_nil)))) _ _ h
  · exact (Ans.no_val h).elim

/-! loop.example/g00790/impl.BitsOf -/
def impl_BitsOf.b {R : Type} (ret : Bool × (List Int) × Bool → Option R) (j0 : Int → Bool → (List Int) → Bool → (List Int) → Int → Int → Option R) (k : Nat) (a0z : Bool) (a0 : List Int) (a1 : Int) : Option R :=
  (impl_within.f k a1 1 10).bind fun t0 => cond (!t0) (ret (true, ([] : List Int), false)) ((impl_BitsNew.f k a1).bind fun t1 => j0 a1 t1.1 t1.2 a0z a0 ((a0).length : Int) 0)
def impl_BitsOf.l0b {R : Type} (ret : Bool × (List Int) × Bool → Option R) (j0 : Int → Bool → (List Int) → Bool → (List Int) → Int → Int → Option R) (k : Nat) (x1 : Int) (x6z : Bool) (x6 : List Int) (x14z : Bool) (x14 : List Int) (x15 : Int) (x16 : Int) : Option R :=
  cond (decide (x16 < x15)) (cond (decide ((0 : Int) ≤ x16)) (cond (decide (x16 < ((x14).length : Int))) ((impl_within.f k (rdI x14 x16) 0 (RowKit.wrap64 (x1 - 1))).bind fun t0 => cond (!t0) (ret (true, ([] : List Int), false)) (cond (decide ((0 : Int) ≤ (RowKit.wrap64 (Int.tdiv (rdI x14 x16) 8)))) (cond (decide ((RowKit.wrap64 (Int.tdiv (rdI x14 x16) 8)) < ((x6).length : Int))) (cond (decide ((0 : Int) ≤ (Int.tmod (rdI x14 x16) 8))) (cond (decide ((0 : Int) ≤ (RowKit.wrap64 (Int.tdiv (rdI x14 x16) 8)))) (cond (decide ((RowKit.wrap64 (Int.tdiv (rdI x14 x16) 8)) < ((x6).length : Int))) (j0 x1 x6z ((x6).set ((RowKit.wrap64 (Int.tdiv (rdI x14 x16) 8))).toNat (Go.bits .or .u8 (rdI x6 (RowKit.wrap64 (Int.tdiv (rdI x14 x16) 8))) (shlI .u8 1 (Int.tmod (rdI x14 x16) 8)))) x14z x14 x15 (RowKit.wrap64 (x16 + 1))) (none)) (none)) (none)) (none)) (none))) (none)) (none)) (ret (x6z, x6, true))
def impl_BitsOf.l0 : Nat → Int → Bool → (List Int) → Bool → (List Int) → Int → Int → Option (Bool × (List Int) × Bool)
  | 0, _, _, _, _, _, _, _ => none
  | k + 1, x1, x6z, x6, x14z, x14, x15, x16 => impl_BitsOf.l0b some (impl_BitsOf.l0 k) k x1 x6z x6 x14z x14 x15 x16
def impl_BitsOf.f : Nat → Bool → (List Int) → Int → Option (Bool × (List Int) × Bool)
  | 0, _, _, _ => none
  | k + 1, a0z, a0, a1 => impl_BitsOf.b some (impl_BitsOf.l0 k) k a0z a0 a1
def impl_BitsOf.enc (r : Bool × (List Int) × Bool) : Res := ⟨[.vals false [((.nums 5 .u8 r.1 r.2.1), true)], .vals false [((.bool r.2.2), true)]], []⟩
def impl_BitsOf.ans (k : Nat) : List Arg → Ans
  | [.v (.nums 3 .i64 a0z a0), .v (.int .i64 a1)] => ⟨impl_BitsOf.f k a0z a0 a1, impl_BitsOf.enc⟩
  | _ => Ans.no
def impl_BitsOf.Cs (k : Nat) : CallSem := tab [(126, impl_within.ans k), (208, impl_BitsNew.ans k)]
def impl_BitsOf.cuts : List (Nat × Keep) := [(122, ⟨[(1, some []), (6, none), (14, some []), (15, some []), (16, some [])], []⟩)]
noncomputable def impl_BitsOf.K0 : List Fr := framesAt [true, true, true, false, true, false] (bodyOf Try.f181 impl_BitsOf.cuts) []
def impl_BitsOf.N0 (x1 : Int) (x6z : Bool) (x6 : List Int) (x14z : Bool) (x14 : List Int) (x15 : Int) (x16 : Int) : St := stOf 37 37 2 [(1, .val (V.s (.int .i64 x1))), (6, .val ⟨(.nums 5 .u8 x6z x6), [.l 6 0], true, some (.l 6 0)⟩), (14, .val ⟨(.nums 3 .i64 x14z x14), [], false, none⟩), (15, .val (V.s (.int .i64 x15))), (16, .val (V.s (.int .i64 x16)))] []
theorem impl_BitsOf.s (k : Nat) (a0z : Bool) (a0 : List Int) (a1 : Int) : answer Try.prog impl_BitsOf.Cs 100000 impl_BitsOf.cuts [] Try.f181 (k + 1) [.v (.nums 3 .i64 a0z a0), .v (.int .i64 a1)] = impl_BitsOf.b (fun r => some (impl_BitsOf.enc r)) (fun x1 x6z x6 x14z x14 x15 x16 => rounds Try.prog impl_BitsOf.Cs (finish Try.prog [] Try.f181 [.v (.nums 3 .i64 a0z a0), .v (.int .i64 a1)]) 100000 k impl_BitsOf.K0 (impl_BitsOf.N0 x1 x6z x6 x14z x14 x15 x16)) k a0z a0 a1 := by kernel_rfl
theorem impl_BitsOf.s0 (k : Nat) (G : List Fr → St → Option Res) (a0z : Bool) (a0 : List Int) (a1 : Int) (yx1 : Int) (yx6z : Bool) (yx6 : List Int) (yx14z : Bool) (yx14 : List Int) (yx15 : Int) (yx16 : Int) : resume Try.prog (impl_BitsOf.Cs k) G (finish Try.prog [] Try.f181 [.v (.nums 3 .i64 a0z a0), .v (.int .i64 a1)]) 100000 impl_BitsOf.K0 (impl_BitsOf.N0 yx1 yx6z yx6 yx14z yx14 yx15 yx16) = impl_BitsOf.l0b (fun r => some (impl_BitsOf.enc r)) (fun x1 x6z x6 x14z x14 x15 x16 => G impl_BitsOf.K0 (impl_BitsOf.N0 x1 x6z x6 x14z x14 x15 x16)) k yx1 yx6z yx6 yx14z yx14 yx15 yx16 := by kernel_rfl
theorem impl_BitsOf.b_nat {R R' : Type} (e : R → R') (ret : Bool × (List Int) × Bool → Option R) (j0 : Int → Bool → (List Int) → Bool → (List Int) → Int → Int → Option R) (k : Nat) (a0z : Bool) (a0 : List Int) (a1 : Int) : impl_BitsOf.b (fun r => (ret r).map e) (fun x1 x6z x6 x14z x14 x15 x16 => (j0 x1 x6z x6 x14z x14 x15 x16).map e) k a0z a0 a1 = (impl_BitsOf.b ret j0 k a0z a0 a1).map e := by
  unfold impl_BitsOf.b
  repeat' first | with_reducible refine nat_cond ?_ ?_ | with_reducible refine nat_bind fun _ => ?_ | rfl
theorem impl_BitsOf.l0b_nat {R R' : Type} (e : R → R') (ret : Bool × (List Int) × Bool → Option R) (j0 : Int → Bool → (List Int) → Bool → (List Int) → Int → Int → Option R) (k : Nat) (x1 : Int) (x6z : Bool) (x6 : List Int) (x14z : Bool) (x14 : List Int) (x15 : Int) (x16 : Int) : impl_BitsOf.l0b (fun r => (ret r).map e) (fun x1 x6z x6 x14z x14 x15 x16 => (j0 x1 x6z x6 x14z x14 x15 x16).map e) k x1 x6z x6 x14z x14 x15 x16 = (impl_BitsOf.l0b ret j0 k x1 x6z x6 x14z x14 x15 x16).map e := by
  unfold impl_BitsOf.l0b
  repeat' first | with_reducible refine nat_cond ?_ ?_ | with_reducible refine nat_bind fun _ => ?_ | rfl
theorem impl_BitsOf.rounds_eq (a0z : Bool) (a0 : List Int) (a1 : Int) : ∀ k, (∀ (x1 : Int) (x6z : Bool) (x6 : List Int) (x14z : Bool) (x14 : List Int) (x15 : Int) (x16 : Int), rounds Try.prog impl_BitsOf.Cs (finish Try.prog [] Try.f181 [.v (.nums 3 .i64 a0z a0), .v (.int .i64 a1)]) 100000 k impl_BitsOf.K0 (impl_BitsOf.N0 x1 x6z x6 x14z x14 x15 x16) = (impl_BitsOf.l0 k x1 x6z x6 x14z x14 x15 x16).map impl_BitsOf.enc)
  | 0 => fun _ _ _ _ _ _ _ => rfl
  | k + 1 => by
    have ih := impl_BitsOf.rounds_eq a0z a0 a1 k
    refine fun _ _ _ _ _ _ _ => ?_
    · refine (impl_BitsOf.s0 k _ a0z a0 a1 _ _ _ _ _ _ _).trans (Eq.trans ?_ (impl_BitsOf.l0b_nat impl_BitsOf.enc some (impl_BitsOf.l0 k) k _ _ _ _ _ _ _))
      simp only [ih, Option.map_some]
theorem impl_BitsOf.eq (k : Nat) (a0z : Bool) (a0 : List Int) (a1 : Int) : answer Try.prog impl_BitsOf.Cs 100000 impl_BitsOf.cuts [] Try.f181 (k + 1) [.v (.nums 3 .i64 a0z a0), .v (.int .i64 a1)] = (impl_BitsOf.f (k + 1) a0z a0 a1).map impl_BitsOf.enc := by
  have ih := impl_BitsOf.rounds_eq a0z a0 a1 k
  refine (impl_BitsOf.s k a0z a0 a1).trans (Eq.trans ?_ (impl_BitsOf.b_nat impl_BitsOf.enc some (impl_BitsOf.l0 k) k a0z a0 a1))
  simp only [ih, Option.map_some]
theorem impl_BitsOf.sound (k : Nat) : SoundF Try.prog 181 (fun a => (impl_BitsOf.ans k a).val) := by
  refine sound_plain (fun args res h => ?_) (fun t n => rfl)
  unfold impl_BitsOf.ans at h
  dsimp only at h
  split at h
  · cases k with
    | zero => cases h
    | succ k =>
      unfold Ans.val at h
      rw [← impl_BitsOf.eq] at h
      exact answer_sound mixed Try.func181 _ _ _ (k + 1) (fun j _ => tab_sound (tab_cons (impl_within.sound j) (tab_cons (impl_BitsNew.sound j) (tab_nil)))) _ _ h
  · exact (Ans.no_val h).elim

/-! loop.example/g00790/impl.TcBits -/
def impl_TcBits.b {R : Type} (ret : Bool × (List Int) × Bool → Option R) (j0 : (List Int) → Bool → (List T) → Int → Int → Int → Int → Int → Int → Int → Option R) (k : Nat) (a0_0 : Int) (a0_1 : Int) (a0_2 : Int) (a0_3 : Int) (a0_4 : Int) (a1_0 : Int) (a1_1z : Bool) (a1_1 : List T) : Option R :=
  (impl_TcOk.f k a0_0 a0_1 a0_2 a0_3 a0_4 a1_0 a1_1z a1_1).bind fun t0 => cond (!t0) (ret (true, ([] : List Int), false)) (j0 ([] : List Int) a1_1z a1_1 ((a1_1).length : Int) 0 a0_0 a0_1 a0_2 a0_3 a0_4)
def impl_TcBits.l0b {R : Type} (ret : Bool × (List Int) × Bool → Option R) (j0 : (List Int) → Bool → (List T) → Int → Int → Int → Int → Int → Int → Int → Option R) (k : Nat) (x6 : List Int) (x15z : Bool) (x15 : List T) (x16 : Int) (x17 : Int) (c2_0 : Int) (c2_1 : Int) (c2_2 : Int) (c2_3 : Int) (c2_4 : Int) : Option R :=
  cond (decide (x17 < x16)) (cond (decide ((0 : Int) ≤ x17)) (cond (decide (x17 < ((x15).length : Int))) (cond (decide ((x6).length + 1 < 17592186044416)) (j0 (x6 ++ ([((((x15).getD (x17).toNat .bad).cells.getD 0 .bad)).toInt] : List Int)) x15z x15 x16 (RowKit.wrap64 (x17 + 1)) c2_0 c2_1 c2_2 c2_3 c2_4) (none)) (none)) (none)) ((impl_BitsOf.f k false x6 c2_0).bind fun t0 => ret (t0.1, t0.2.1, t0.2.2))
def impl_TcBits.l0 : Nat → (List Int) → Bool → (List T) → Int → Int → Int → Int → Int → Int → Int → Option (Bool × (List Int) × Bool)
  | 0, _, _, _, _, _, _, _, _, _, _ => none
  | k + 1, x6, x15z, x15, x16, x17, c2_0, c2_1, c2_2, c2_3, c2_4 => impl_TcBits.l0b some (impl_TcBits.l0 k) k x6 x15z x15 x16 x17 c2_0 c2_1 c2_2 c2_3 c2_4
def impl_TcBits.f : Nat → Int → Int → Int → Int → Int → Int → Bool → (List T) → Option (Bool × (List Int) × Bool)
  | 0, _, _, _, _, _, _, _, _ => none
  | k + 1, a0_0, a0_1, a0_2, a0_3, a0_4, a1_0, a1_1z, a1_1 => impl_TcBits.b some (impl_TcBits.l0 k) k a0_0 a0_1 a0_2 a0_3 a0_4 a1_0 a1_1z a1_1
def impl_TcBits.enc (r : Bool × (List Int) × Bool) : Res := ⟨[.vals false [((.nums 5 .u8 r.1 r.2.1), true)], .vals false [((.bool r.2.2), true)]], []⟩
def impl_TcBits.ans (k : Nat) : List Arg → Ans
  | [.v (.agg [(.int .i64 a0_0), (.int .i64 a0_1), (.int .i64 a0_2), (.int .i64 a0_3), (.int .i64 a0_4)]), .v (.agg [(.int .i64 a1_0), (.sl 85 a1_1z a1_1)])] => ⟨impl_TcBits.f k a0_0 a0_1 a0_2 a0_3 a0_4 a1_0 a1_1z a1_1, impl_TcBits.enc⟩
  | _ => Ans.no
def impl_TcBits.Cs (k : Nat) : CallSem := tab [(116, impl_TcOk.ans k), (181, impl_BitsOf.ans k)]
def impl_TcBits.cuts : List (Nat × Keep) := [(122, ⟨[(2, some []), (6, none), (15, some []), (16, some []), (17, some [])], [(2, [some [], some [], some [], some [], some []])]⟩)]
noncomputable def impl_TcBits.K0 : List Fr := framesAt [true, true, true, false, true, false] (bodyOf Try.f118 impl_TcBits.cuts) []
def impl_TcBits.N0 (x6 : List Int) (x15z : Bool) (x15 : List T) (x16 : Int) (x17 : Int) (c2_0 : Int) (c2_1 : Int) (c2_2 : Int) (c2_3 : Int) (c2_4 : Int) : St := stOf 33 33 2 [(2, .bp 2 0), (6, .val ⟨(.nums 3 .i64 false x6), [.l 6 0], true, some (.l 6 0)⟩), (15, .val ⟨(.sl 85 x15z x15), [], false, none⟩), (16, .val (V.s (.int .i64 x16))), (17, .val (V.s (.int .i64 x17)))] [(2, .cells [V.s (.int .i64 c2_0), V.s (.int .i64 c2_1), V.s (.int .i64 c2_2), V.s (.int .i64 c2_3), V.s (.int .i64 c2_4)])]
theorem impl_TcBits.s (k : Nat) (a0_0 : Int) (a0_1 : Int) (a0_2 : Int) (a0_3 : Int) (a0_4 : Int) (a1_0 : Int) (a1_1z : Bool) (a1_1 : List T) : answer Try.prog impl_TcBits.Cs 100000 impl_TcBits.cuts [] Try.f118 (k + 1) [.v (.agg [(.int .i64 a0_0), (.int .i64 a0_1), (.int .i64 a0_2), (.int .i64 a0_3), (.int .i64 a0_4)]), .v (.agg [(.int .i64 a1_0), (.sl 85 a1_1z a1_1)])] = impl_TcBits.b (fun r => some (impl_TcBits.enc r)) (fun x6 x15z x15 x16 x17 c2_0 c2_1 c2_2 c2_3 c2_4 => rounds Try.prog impl_TcBits.Cs (finish Try.prog [] Try.f118 [.v (.agg [(.int .i64 a0_0), (.int .i64 a0_1), (.int .i64 a0_2), (.int .i64 a0_3), (.int .i64 a0_4)]), .v (.agg [(.int .i64 a1_0), (.sl 85 a1_1z a1_1)])]) 100000 k impl_TcBits.K0 (impl_TcBits.N0 x6 x15z x15 x16 x17 c2_0 c2_1 c2_2 c2_3 c2_4)) k a0_0 a0_1 a0_2 a0_3 a0_4 a1_0 a1_1z a1_1 := by kernel_rfl
theorem impl_TcBits.s0 (k : Nat) (G : List Fr → St → Option Res) (a0_0 : Int) (a0_1 : Int) (a0_2 : Int) (a0_3 : Int) (a0_4 : Int) (a1_0 : Int) (a1_1z : Bool) (a1_1 : List T) (yx6 : List Int) (yx15z : Bool) (yx15 : List T) (yx16 : Int) (yx17 : Int) (yc2_0 : Int) (yc2_1 : Int) (yc2_2 : Int) (yc2_3 : Int) (yc2_4 : Int) : resume Try.prog (impl_TcBits.Cs k) G (finish Try.prog [] Try.f118 [.v (.agg [(.int .i64 a0_0), (.int .i64 a0_1), (.int .i64 a0_2), (.int .i64 a0_3), (.int .i64 a0_4)]), .v (.agg [(.int .i64 a1_0), (.sl 85 a1_1z a1_1)])]) 100000 impl_TcBits.K0 (impl_TcBits.N0 yx6 yx15z yx15 yx16 yx17 yc2_0 yc2_1 yc2_2 yc2_3 yc2_4) = impl_TcBits.l0b (fun r => some (impl_TcBits.enc r)) (fun x6 x15z x15 x16 x17 c2_0 c2_1 c2_2 c2_3 c2_4 => G impl_TcBits.K0 (impl_TcBits.N0 x6 x15z x15 x16 x17 c2_0 c2_1 c2_2 c2_3 c2_4)) k yx6 yx15z yx15 yx16 yx17 yc2_0 yc2_1 yc2_2 yc2_3 yc2_4 := by kernel_rfl
theorem impl_TcBits.b_nat {R R' : Type} (e : R → R') (ret : Bool × (List Int) × Bool → Option R) (j0 : (List Int) → Bool → (List T) → Int → Int → Int → Int → Int → Int → Int → Option R) (k : Nat) (a0_0 : Int) (a0_1 : Int) (a0_2 : Int) (a0_3 : Int) (a0_4 : Int) (a1_0 : Int) (a1_1z : Bool) (a1_1 : List T) : impl_TcBits.b (fun r => (ret r).map e) (fun x6 x15z x15 x16 x17 c2_0 c2_1 c2_2 c2_3 c2_4 => (j0 x6 x15z x15 x16 x17 c2_0 c2_1 c2_2 c2_3 c2_4).map e) k a0_0 a0_1 a0_2 a0_3 a0_4 a1_0 a1_1z a1_1 = (impl_TcBits.b ret j0 k a0_0 a0_1 a0_2 a0_3 a0_4 a1_0 a1_1z a1_1).map e := by
  unfold impl_TcBits.b
  repeat' first | with_reducible refine nat_cond ?_ ?_ | with_reducible refine nat_bind fun _ => ?_ | rfl
theorem impl_TcBits.l0b_nat {R R' : Type} (e : R → R') (ret : Bool × (List Int) × Bool → Option R) (j0 : (List Int) → Bool → (List T) → Int → Int → Int → Int → Int → Int → Int → Option R) (k : Nat) (x6 : List Int) (x15z : Bool) (x15 : List T) (x16 : Int) (x17 : Int) (c2_0 : Int) (c2_1 : Int) (c2_2 : Int) (c2_3 : Int) (c2_4 : Int) : impl_TcBits.l0b (fun r => (ret r).map e) (fun x6 x15z x15 x16 x17 c2_0 c2_1 c2_2 c2_3 c2_4 => (j0 x6 x15z x15 x16 x17 c2_0 c2_1 c2_2 c2_3 c2_4).map e) k x6 x15z x15 x16 x17 c2_0 c2_1 c2_2 c2_3 c2_4 = (impl_TcBits.l0b ret j0 k x6 x15z x15 x16 x17 c2_0 c2_1 c2_2 c2_3 c2_4).map e := by
  unfold impl_TcBits.l0b
  repeat' first | with_reducible refine nat_cond ?_ ?_ | with_reducible refine nat_bind fun _ => ?_ | rfl
theorem impl_TcBits.rounds_eq (a0_0 : Int) (a0_1 : Int) (a0_2 : Int) (a0_3 : Int) (a0_4 : Int) (a1_0 : Int) (a1_1z : Bool) (a1_1 : List T) : ∀ k, (∀ (x6 : List Int) (x15z : Bool) (x15 : List T) (x16 : Int) (x17 : Int) (c2_0 : Int) (c2_1 : Int) (c2_2 : Int) (c2_3 : Int) (c2_4 : Int), rounds Try.prog impl_TcBits.Cs (finish Try.prog [] Try.f118 [.v (.agg [(.int .i64 a0_0), (.int .i64 a0_1), (.int .i64 a0_2), (.int .i64 a0_3), (.int .i64 a0_4)]), .v (.agg [(.int .i64 a1_0), (.sl 85 a1_1z a1_1)])]) 100000 k impl_TcBits.K0 (impl_TcBits.N0 x6 x15z x15 x16 x17 c2_0 c2_1 c2_2 c2_3 c2_4) = (impl_TcBits.l0 k x6 x15z x15 x16 x17 c2_0 c2_1 c2_2 c2_3 c2_4).map impl_TcBits.enc)
  | 0 => fun _ _ _ _ _ _ _ _ _ _ => rfl
  | k + 1 => by
    have ih := impl_TcBits.rounds_eq a0_0 a0_1 a0_2 a0_3 a0_4 a1_0 a1_1z a1_1 k
    refine fun _ _ _ _ _ _ _ _ _ _ => ?_
    · refine (impl_TcBits.s0 k _ a0_0 a0_1 a0_2 a0_3 a0_4 a1_0 a1_1z a1_1 _ _ _ _ _ _ _ _ _ _).trans (Eq.trans ?_ (impl_TcBits.l0b_nat impl_TcBits.enc some (impl_TcBits.l0 k) k _ _ _ _ _ _ _ _ _ _))
      simp only [ih, Option.map_some]
theorem impl_TcBits.eq (k : Nat) (a0_0 : Int) (a0_1 : Int) (a0_2 : Int) (a0_3 : Int) (a0_4 : Int) (a1_0 : Int) (a1_1z : Bool) (a1_1 : List T) : answer Try.prog impl_TcBits.Cs 100000 impl_TcBits.cuts [] Try.f118 (k + 1) [.v (.agg [(.int .i64 a0_0), (.int .i64 a0_1), (.int .i64 a0_2), (.int .i64 a0_3), (.int .i64 a0_4)]), .v (.agg [(.int .i64 a1_0), (.sl 85 a1_1z a1_1)])] = (impl_TcBits.f (k + 1) a0_0 a0_1 a0_2 a0_3 a0_4 a1_0 a1_1z a1_1).map impl_TcBits.enc := by
  have ih := impl_TcBits.rounds_eq a0_0 a0_1 a0_2 a0_3 a0_4 a1_0 a1_1z a1_1 k
  refine (impl_TcBits.s k a0_0 a0_1 a0_2 a0_3 a0_4 a1_0 a1_1z a1_1).trans (Eq.trans ?_ (impl_TcBits.b_nat impl_TcBits.enc some (impl_TcBits.l0 k) k a0_0 a0_1 a0_2 a0_3 a0_4 a1_0 a1_1z a1_1))
  simp only [ih, Option.map_some]
theorem impl_TcBits.sound (k : Nat) : SoundF Try.prog 118 (fun a => (impl_TcBits.ans k a).val) := by
  refine sound_plain (fun args res h => ?_) (fun t n => rfl)
  unfold impl_TcBits.ans at h
  dsimp only at h
  split at h
  · cases k with
    | zero => cases h
    | succ k =>
      unfold Ans.val at h
      rw [← impl_TcBits.eq] at h
      exact answer_sound mixed Try.func118 _ _ _ (k + 1) (fun j _ => tab_sound (tab_cons (impl_TcOk.sound j) (tab_cons (impl_BitsOf.sound j) (tab_nil)))) _ _ h
  · exact (Ans.no_val h).elim

/-! loop.example/g00790/impl.BitsHas -/
def impl_BitsHas.b {R : Type} (ret : Bool → Option R) (k : Nat) (a0z : Bool) (a0 : List Int) (a1 : Int) : Option R :=
  (impl_within.f k a1 0 (RowKit.wrap64 ((RowKit.wrap64 ((8 : Int) * ((a0).length : Int))) - 1))).bind fun t0 => cond t0 (cond (decide ((0 : Int) ≤ (RowKit.wrap64 (Int.tdiv a1 8)))) (cond (decide ((RowKit.wrap64 (Int.tdiv a1 8)) < ((a0).length : Int))) (cond (decide ((0 : Int) ≤ (Int.tmod a1 8))) (ret (decide ((Go.bits .and .u8 (shrI .u8 (rdI a0 (RowKit.wrap64 (Int.tdiv a1 8))) (Int.tmod a1 8)) 1) = 1))) (none)) (none)) (none)) (ret false)
def impl_BitsHas.f : Nat → Bool → (List Int) → Int → Option Bool
  | 0, _, _, _ => none
  | k + 1, a0z, a0, a1 => impl_BitsHas.b some k a0z a0 a1
def impl_BitsHas.enc (r : Bool) : Res := ⟨[.vals false [((.bool r), true)]], []⟩
def impl_BitsHas.ans (k : Nat) : List Arg → Ans
  | [.v (.nums 5 .u8 a0z a0), .v (.int .i64 a1)] => ⟨impl_BitsHas.f k a0z a0 a1, impl_BitsHas.enc⟩
  | _ => Ans.no
def impl_BitsHas.Cs (k : Nat) : CallSem := tab [(126, impl_within.ans k)]
def impl_BitsHas.cuts : List (Nat × Keep) := []
theorem impl_BitsHas.s (k : Nat) (a0z : Bool) (a0 : List Int) (a1 : Int) : answer Try.prog impl_BitsHas.Cs 100000 impl_BitsHas.cuts [] Try.f190 (k + 1) [.v (.nums 5 .u8 a0z a0), .v (.int .i64 a1)] = impl_BitsHas.b (fun r => some (impl_BitsHas.enc r)) k a0z a0 a1 := by kernel_rfl
theorem impl_BitsHas.b_nat {R R' : Type} (e : R → R') (ret : Bool → Option R) (k : Nat) (a0z : Bool) (a0 : List Int) (a1 : Int) : impl_BitsHas.b (fun r => (ret r).map e) k a0z a0 a1 = (impl_BitsHas.b ret k a0z a0 a1).map e := by
  unfold impl_BitsHas.b
  repeat' first | with_reducible refine nat_cond ?_ ?_ | with_reducible refine nat_bind fun _ => ?_ | rfl
theorem impl_BitsHas.eq (k : Nat) (a0z : Bool) (a0 : List Int) (a1 : Int) : answer Try.prog impl_BitsHas.Cs 100000 impl_BitsHas.cuts [] Try.f190 (k + 1) [.v (.nums 5 .u8 a0z a0), .v (.int .i64 a1)] = (impl_BitsHas.f (k + 1) a0z a0 a1).map impl_BitsHas.enc := by
  refine (impl_BitsHas.s k a0z a0 a1).trans (Eq.trans ?_ (impl_BitsHas.b_nat impl_BitsHas.enc some k a0z a0 a1))
  simp only [Option.map_some]
theorem impl_BitsHas.sound (k : Nat) : SoundF Try.prog 190 (fun a => (impl_BitsHas.ans k a).val) := by
  refine sound_plain (fun args res h => ?_) (fun t n => rfl)
  unfold impl_BitsHas.ans at h
  dsimp only at h
  split at h
  · cases k with
    | zero => cases h
    | succ k =>
      unfold Ans.val at h
      rw [← impl_BitsHas.eq] at h
      exact answer_sound mixed Try.func190 _ _ _ (k + 1) (fun j _ => tab_sound (tab_cons (impl_within.sound j) (tab_nil))) _ _ h
  · exact (Ans.no_val h).elim

/-! loop.example/g00790/impl.BitsList -/
def impl_BitsList.b {R : Type} (ret : Bool × List Int → Option R) (j0 : Bool → (List Int) → (List Int) → Int → Int → Option R) (k : Nat) (a0z : Bool) (a0 : List Int) : Option R :=
  j0 a0z a0 ([] : List Int) (RowKit.wrap64 ((8 : Int) * ((a0).length : Int))) 0
def impl_BitsList.l0b {R : Type} (ret : Bool × List Int → Option R) (j0 : Bool → (List Int) → (List Int) → Int → Int → Option R) (k : Nat) (x0z : Bool) (x0 : List Int) (x3 : List Int) (x8 : Int) (x9 : Int) : Option R :=
  cond (decide (x9 < x8)) ((impl_BitsHas.f k x0z x0 x9).bind fun t0 => cond t0 (cond (decide ((x3).length + 1 < 17592186044416)) (j0 x0z x0 (x3 ++ ([x9] : List Int)) x8 (RowKit.wrap64 (x9 + 1))) (none)) (j0 x0z x0 x3 x8 (RowKit.wrap64 (x9 + 1)))) (ret (false, x3))
def impl_BitsList.l0 : Nat → Bool → (List Int) → (List Int) → Int → Int → Option (Bool × List Int)
  | 0, _, _, _, _, _ => none
  | k + 1, x0z, x0, x3, x8, x9 => impl_BitsList.l0b some (impl_BitsList.l0 k) k x0z x0 x3 x8 x9
def impl_BitsList.f : Nat → Bool → (List Int) → Option (Bool × List Int)
  | 0, _, _ => none
  | k + 1, a0z, a0 => impl_BitsList.b some (impl_BitsList.l0 k) k a0z a0
def impl_BitsList.enc (r : Bool × List Int) : Res := ⟨[.vals false [((.nums 3 .i64 r.1 r.2), true)]], []⟩
def impl_BitsList.ans (k : Nat) : List Arg → Ans
  | [.v (.nums 5 .u8 a0z a0)] => ⟨impl_BitsList.f k a0z a0, impl_BitsList.enc⟩
  | _ => Ans.no
def impl_BitsList.Cs (k : Nat) : CallSem := tab [(190, impl_BitsHas.ans k)]
def impl_BitsList.cuts : List (Nat × Keep) := [(58, ⟨[(0, some []), (3, none), (8, some []), (9, some [])], []⟩)]
noncomputable def impl_BitsList.K0 : List Fr := framesAt [true, true, false, true, false] (bodyOf Try.f140 impl_BitsList.cuts) []
def impl_BitsList.N0 (x0z : Bool) (x0 : List Int) (x3 : List Int) (x8 : Int) (x9 : Int) : St := stOf 21 21 1 [(0, .val ⟨(.nums 5 .u8 x0z x0), [], false, none⟩), (3, .val ⟨(.nums 3 .i64 false x3), [.l 3 0], true, some (.l 3 0)⟩), (8, .val (V.s (.int .i64 x8))), (9, .val (V.s (.int .i64 x9)))] []
theorem impl_BitsList.s (k : Nat) (a0z : Bool) (a0 : List Int) : answer Try.prog impl_BitsList.Cs 100000 impl_BitsList.cuts [] Try.f140 (k + 1) [.v (.nums 5 .u8 a0z a0)] = impl_BitsList.b (fun r => some (impl_BitsList.enc r)) (fun x0z x0 x3 x8 x9 => rounds Try.prog impl_BitsList.Cs (finish Try.prog [] Try.f140 [.v (.nums 5 .u8 a0z a0)]) 100000 k impl_BitsList.K0 (impl_BitsList.N0 x0z x0 x3 x8 x9)) k a0z a0 := by kernel_rfl
theorem impl_BitsList.s0 (k : Nat) (G : List Fr → St → Option Res) (a0z : Bool) (a0 : List Int) (yx0z : Bool) (yx0 : List Int) (yx3 : List Int) (yx8 : Int) (yx9 : Int) : resume Try.prog (impl_BitsList.Cs k) G (finish Try.prog [] Try.f140 [.v (.nums 5 .u8 a0z a0)]) 100000 impl_BitsList.K0 (impl_BitsList.N0 yx0z yx0 yx3 yx8 yx9) = impl_BitsList.l0b (fun r => some (impl_BitsList.enc r)) (fun x0z x0 x3 x8 x9 => G impl_BitsList.K0 (impl_BitsList.N0 x0z x0 x3 x8 x9)) k yx0z yx0 yx3 yx8 yx9 := by kernel_rfl
theorem impl_BitsList.b_nat {R R' : Type} (e : R → R') (ret : Bool × List Int → Option R) (j0 : Bool → (List Int) → (List Int) → Int → Int → Option R) (k : Nat) (a0z : Bool) (a0 : List Int) : impl_BitsList.b (fun r => (ret r).map e) (fun x0z x0 x3 x8 x9 => (j0 x0z x0 x3 x8 x9).map e) k a0z a0 = (impl_BitsList.b ret j0 k a0z a0).map e := by
  unfold impl_BitsList.b
  repeat' first | with_reducible refine nat_cond ?_ ?_ | with_reducible refine nat_bind fun _ => ?_ | rfl
theorem impl_BitsList.l0b_nat {R R' : Type} (e : R → R') (ret : Bool × List Int → Option R) (j0 : Bool → (List Int) → (List Int) → Int → Int → Option R) (k : Nat) (x0z : Bool) (x0 : List Int) (x3 : List Int) (x8 : Int) (x9 : Int) : impl_BitsList.l0b (fun r => (ret r).map e) (fun x0z x0 x3 x8 x9 => (j0 x0z x0 x3 x8 x9).map e) k x0z x0 x3 x8 x9 = (impl_BitsList.l0b ret j0 k x0z x0 x3 x8 x9).map e := by
  unfold impl_BitsList.l0b
  repeat' first | with_reducible refine nat_cond ?_ ?_ | with_reducible refine nat_bind fun _ => ?_ | rfl
theorem impl_BitsList.rounds_eq (a0z : Bool) (a0 : List Int) : ∀ k, (∀ (x0z : Bool) (x0 : List Int) (x3 : List Int) (x8 : Int) (x9 : Int), rounds Try.prog impl_BitsList.Cs (finish Try.prog [] Try.f140 [.v (.nums 5 .u8 a0z a0)]) 100000 k impl_BitsList.K0 (impl_BitsList.N0 x0z x0 x3 x8 x9) = (impl_BitsList.l0 k x0z x0 x3 x8 x9).map impl_BitsList.enc)
  | 0 => fun _ _ _ _ _ => rfl
  | k + 1 => by
    have ih := impl_BitsList.rounds_eq a0z a0 k
    refine fun _ _ _ _ _ => ?_
    · refine (impl_BitsList.s0 k _ a0z a0 _ _ _ _ _).trans (Eq.trans ?_ (impl_BitsList.l0b_nat impl_BitsList.enc some (impl_BitsList.l0 k) k _ _ _ _ _))
      simp only [ih, Option.map_some]
theorem impl_BitsList.eq (k : Nat) (a0z : Bool) (a0 : List Int) : answer Try.prog impl_BitsList.Cs 100000 impl_BitsList.cuts [] Try.f140 (k + 1) [.v (.nums 5 .u8 a0z a0)] = (impl_BitsList.f (k + 1) a0z a0).map impl_BitsList.enc := by
  have ih := impl_BitsList.rounds_eq a0z a0 k
  refine (impl_BitsList.s k a0z a0).trans (Eq.trans ?_ (impl_BitsList.b_nat impl_BitsList.enc some (impl_BitsList.l0 k) k a0z a0))
  simp only [ih, Option.map_some]
theorem impl_BitsList.sound (k : Nat) : SoundF Try.prog 140 (fun a => (impl_BitsList.ans k a).val) := by
  refine sound_plain (fun args res h => ?_) (fun t n => rfl)
  unfold impl_BitsList.ans at h
  dsimp only at h
  split at h
  · cases k with
    | zero => cases h
    | succ k =>
      unfold Ans.val at h
      rw [← impl_BitsList.eq] at h
      exact answer_sound mixed Try.func140 _ _ _ (k + 1) (fun j _ => tab_sound (tab_cons (impl_BitsHas.sound j) (tab_nil))) _ _ h
  · exact (Ans.no_val h).elim

/-! loop.example/g00790/impl.BitsOk -/
def impl_BitsOk.b {R : Type} (ret : Bool → Option R) (j0 : Int → Bool → (List Int) → Int → Int → Option R) (k : Nat) (a0z : Bool) (a0 : List Int) (a1 : Int) : Option R :=
  (impl_within.f k a1 1 10).bind fun t0 => cond (!t0) (ret false) ((impl_BitsSize.f k a1).bind fun t1 => cond (!(decide (((a0).length : Int) = t1))) (ret false) ((impl_BitsList.f k a0z a0).bind fun t2 => j0 a1 t2.1 t2.2 ((t2.2).length : Int) 0))
def impl_BitsOk.l0b {R : Type} (ret : Bool → Option R) (j0 : Int → Bool → (List Int) → Int → Int → Option R) (k : Nat) (x1 : Int) (x18z : Bool) (x18 : List Int) (x19 : Int) (x20 : Int) : Option R :=
  cond (decide (x20 < x19)) (cond (decide ((0 : Int) ≤ x20)) (cond (decide (x20 < ((x18).length : Int))) (cond (decide ((rdI x18 x20) ≥ x1)) (ret false) (j0 x1 x18z x18 x19 (RowKit.wrap64 (x20 + 1)))) (none)) (none)) (ret true)
def impl_BitsOk.l0 : Nat → Int → Bool → (List Int) → Int → Int → Option Bool
  | 0, _, _, _, _, _ => none
  | k + 1, x1, x18z, x18, x19, x20 => impl_BitsOk.l0b some (impl_BitsOk.l0 k) k x1 x18z x18 x19 x20
def impl_BitsOk.f : Nat → Bool → (List Int) → Int → Option Bool
  | 0, _, _, _ => none
  | k + 1, a0z, a0, a1 => impl_BitsOk.b some (impl_BitsOk.l0 k) k a0z a0 a1
def impl_BitsOk.enc (r : Bool) : Res := ⟨[.vals false [((.bool r), true)]], []⟩
def impl_BitsOk.ans (k : Nat) : List Arg → Ans
  | [.v (.nums 5 .u8 a0z a0), .v (.int .i64 a1)] => ⟨impl_BitsOk.f k a0z a0 a1, impl_BitsOk.enc⟩
  | _ => Ans.no
def impl_BitsOk.Cs (k : Nat) : CallSem := tab [(126, impl_within.ans k), (189, impl_BitsSize.ans k), (140, impl_BitsList.ans k)]
def impl_BitsOk.cuts : List (Nat × Keep) := [(58, ⟨[(1, some []), (18, none), (19, some []), (20, some [])], []⟩)]
noncomputable def impl_BitsOk.K0 : List Fr := framesAt [true, true, false, true, false] (bodyOf Try.f139 impl_BitsOk.cuts) []
def impl_BitsOk.N0 (x1 : Int) (x18z : Bool) (x18 : List Int) (x19 : Int) (x20 : Int) : St := stOf 28 28 2 [(1, .val (V.s (.int .i64 x1))), (18, .val ⟨(.nums 3 .i64 x18z x18), [.l 18 0], true, some (.l 18 0)⟩), (19, .val (V.s (.int .i64 x19))), (20, .val (V.s (.int .i64 x20)))] []
theorem impl_BitsOk.s (k : Nat) (a0z : Bool) (a0 : List Int) (a1 : Int) : answer Try.prog impl_BitsOk.Cs 100000 impl_BitsOk.cuts [] Try.f139 (k + 1) [.v (.nums 5 .u8 a0z a0), .v (.int .i64 a1)] = impl_BitsOk.b (fun r => some (impl_BitsOk.enc r)) (fun x1 x18z x18 x19 x20 => rounds Try.prog impl_BitsOk.Cs (finish Try.prog [] Try.f139 [.v (.nums 5 .u8 a0z a0), .v (.int .i64 a1)]) 100000 k impl_BitsOk.K0 (impl_BitsOk.N0 x1 x18z x18 x19 x20)) k a0z a0 a1 := by kernel_rfl
theorem impl_BitsOk.s0 (k : Nat) (G : List Fr → St → Option Res) (a0z : Bool) (a0 : List Int) (a1 : Int) (yx1 : Int) (yx18z : Bool) (yx18 : List Int) (yx19 : Int) (yx20 : Int) : resume Try.prog (impl_BitsOk.Cs k) G (finish Try.prog [] Try.f139 [.v (.nums 5 .u8 a0z a0), .v (.int .i64 a1)]) 100000 impl_BitsOk.K0 (impl_BitsOk.N0 yx1 yx18z yx18 yx19 yx20) = impl_BitsOk.l0b (fun r => some (impl_BitsOk.enc r)) (fun x1 x18z x18 x19 x20 => G impl_BitsOk.K0 (impl_BitsOk.N0 x1 x18z x18 x19 x20)) k yx1 yx18z yx18 yx19 yx20 := by kernel_rfl
theorem impl_BitsOk.b_nat {R R' : Type} (e : R → R') (ret : Bool → Option R) (j0 : Int → Bool → (List Int) → Int → Int → Option R) (k : Nat) (a0z : Bool) (a0 : List Int) (a1 : Int) : impl_BitsOk.b (fun r => (ret r).map e) (fun x1 x18z x18 x19 x20 => (j0 x1 x18z x18 x19 x20).map e) k a0z a0 a1 = (impl_BitsOk.b ret j0 k a0z a0 a1).map e := by
  unfold impl_BitsOk.b
  repeat' first | with_reducible refine nat_cond ?_ ?_ | with_reducible refine nat_bind fun _ => ?_ | rfl
theorem impl_BitsOk.l0b_nat {R R' : Type} (e : R → R') (ret : Bool → Option R) (j0 : Int → Bool → (List Int) → Int → Int → Option R) (k : Nat) (x1 : Int) (x18z : Bool) (x18 : List Int) (x19 : Int) (x20 : Int) : impl_BitsOk.l0b (fun r => (ret r).map e) (fun x1 x18z x18 x19 x20 => (j0 x1 x18z x18 x19 x20).map e) k x1 x18z x18 x19 x20 = (impl_BitsOk.l0b ret j0 k x1 x18z x18 x19 x20).map e := by
  unfold impl_BitsOk.l0b
  repeat' first | with_reducible refine nat_cond ?_ ?_ | with_reducible refine nat_bind fun _ => ?_ | rfl
theorem impl_BitsOk.rounds_eq (a0z : Bool) (a0 : List Int) (a1 : Int) : ∀ k, (∀ (x1 : Int) (x18z : Bool) (x18 : List Int) (x19 : Int) (x20 : Int), rounds Try.prog impl_BitsOk.Cs (finish Try.prog [] Try.f139 [.v (.nums 5 .u8 a0z a0), .v (.int .i64 a1)]) 100000 k impl_BitsOk.K0 (impl_BitsOk.N0 x1 x18z x18 x19 x20) = (impl_BitsOk.l0 k x1 x18z x18 x19 x20).map impl_BitsOk.enc)
  | 0 => fun _ _ _ _ _ => rfl
  | k + 1 => by
    have ih := impl_BitsOk.rounds_eq a0z a0 a1 k
    refine fun _ _ _ _ _ => ?_
    · refine (impl_BitsOk.s0 k _ a0z a0 a1 _ _ _ _ _).trans (Eq.trans ?_ (impl_BitsOk.l0b_nat impl_BitsOk.enc some (impl_BitsOk.l0 k) k _ _ _ _ _))
      simp only [ih, Option.map_some]
theorem impl_BitsOk.eq (k : Nat) (a0z : Bool) (a0 : List Int) (a1 : Int) : answer Try.prog impl_BitsOk.Cs 100000 impl_BitsOk.cuts [] Try.f139 (k + 1) [.v (.nums 5 .u8 a0z a0), .v (.int .i64 a1)] = (impl_BitsOk.f (k + 1) a0z a0 a1).map impl_BitsOk.enc := by
  have ih := impl_BitsOk.rounds_eq a0z a0 a1 k
  refine (impl_BitsOk.s k a0z a0 a1).trans (Eq.trans ?_ (impl_BitsOk.b_nat impl_BitsOk.enc some (impl_BitsOk.l0 k) k a0z a0 a1))
  simp only [ih, Option.map_some]
theorem impl_BitsOk.sound (k : Nat) : SoundF Try.prog 139 (fun a => (impl_BitsOk.ans k a).val) := by
  refine sound_plain (fun args res h => ?_) (fun t n => rfl)
  unfold impl_BitsOk.ans at h
  dsimp only at h
  split at h
  · cases k with
    | zero => cases h
    | succ k =>
      unfold Ans.val at h
      rw [← impl_BitsOk.eq] at h
      exact answer_sound mixed Try.func139 _ _ _ (k + 1) (fun j _ => tab_sound (tab_cons (impl_within.sound j) (tab_cons (impl_BitsSize.sound j) (tab_cons (impl_BitsList.sound j) (tab_nil))))) _ _ h
  · exact (Ans.no_val h).elim

end Go.Proofs.YtadnejogdohfkaaG
