/- What the functions compute, printed by a program of this repo; each is shown to be what the machine of values answers. No condition. -/
import Derived.Test.YthocpcfjfgnkgaaProg
import Derived.KernelRfl
import Derived.Test.YthocpcfjfgnkgaaGFnTwicea
namespace Go.Proofs.YthocpcfjfgnkgaaG
open Go Go.Proofs.YthocpcfjfgnkgaaRv Go.Proofs
set_option linter.unusedVariables false
set_option linter.unusedSimpArgs false
/-! loop.example/g00790/spec.ShaBlock -/
def spec_ShaBlock.b {R : Type} (ret : Bool × List Int → Option R) (j0 : Bool → (List Int) → Bool → (List Int) → Bool → (List Int) → Int → Int → Option R) (j1 : Bool → (List Int) → Bool → (List Int) → (List Int) → Int → Option R) (j2 : Bool → (List Int) → (List Int) → Int → Option R) (j3 : Bool → (List Int) → (List Int) → Bool → (List Int) → Bool → (List Int) → Int → Option R) (j4 : Bool → (List Int) → Bool → (List Int) → (List Int) → Int → Int → Option R) (k : Nat) (a0z : Bool) (a0 : List Int) (a1z : Bool) (a1 : List Int) : Option R :=
  cond (!(decide (((a0).length : Int) = 8))) (ret (true, ([] : List Int))) (cond (!(decide (((a1).length : Int) = 64))) (ret (true, ([] : List Int))) (j0 a0z a0 a1z a1 a0z a0 ((a0).length : Int) 0))
def spec_ShaBlock.l0b {R : Type} (ret : Bool × List Int → Option R) (j0 : Bool → (List Int) → Bool → (List Int) → Bool → (List Int) → Int → Int → Option R) (j1 : Bool → (List Int) → Bool → (List Int) → (List Int) → Int → Option R) (j2 : Bool → (List Int) → (List Int) → Int → Option R) (j3 : Bool → (List Int) → (List Int) → Bool → (List Int) → Bool → (List Int) → Int → Option R) (j4 : Bool → (List Int) → Bool → (List Int) → (List Int) → Int → Int → Option R) (k : Nat) (x0z : Bool) (x0 : List Int) (x1z : Bool) (x1 : List Int) (x31z : Bool) (x31 : List Int) (x32 : Int) (x33 : Int) : Option R :=
  cond (decide (x33 < x32)) (cond (decide ((0 : Int) ≤ x33)) (cond (decide (x33 < ((x31).length : Int))) ((spec_l04Word.f k (rdI x31 x33)).bind fun t0 => cond (!t0) (ret (true, ([] : List Int))) (j0 x0z x0 x1z x1 x31z x31 x32 (RowKit.wrap64 (x33 + 1)))) (none)) (none)) (j1 x0z x0 x1z x1 ([] : List Int) 0)
def spec_ShaBlock.l1b {R : Type} (ret : Bool × List Int → Option R) (j0 : Bool → (List Int) → Bool → (List Int) → Bool → (List Int) → Int → Int → Option R) (j1 : Bool → (List Int) → Bool → (List Int) → (List Int) → Int → Option R) (j2 : Bool → (List Int) → (List Int) → Int → Option R) (j3 : Bool → (List Int) → (List Int) → Bool → (List Int) → Bool → (List Int) → Int → Option R) (j4 : Bool → (List Int) → Bool → (List Int) → (List Int) → Int → Int → Option R) (k : Nat) (x0z : Bool) (x0 : List Int) (x1z : Bool) (x1 : List Int) (x7 : List Int) (x8 : Int) : Option R :=
  cond (decide (x8 < 64)) (cond (decide ((0 : Int) ≤ x8)) (cond (decide (x8 < ((x1).length : Int))) (cond (decide ((0 : Int) ≤ (RowKit.wrap64 (x8 + 1)))) (cond (decide ((RowKit.wrap64 (x8 + 1)) < ((x1).length : Int))) (cond (decide ((0 : Int) ≤ (RowKit.wrap64 (x8 + 2)))) (cond (decide ((RowKit.wrap64 (x8 + 2)) < ((x1).length : Int))) (cond (decide ((0 : Int) ≤ (RowKit.wrap64 (x8 + 3)))) (cond (decide ((RowKit.wrap64 (x8 + 3)) < ((x1).length : Int))) (cond (decide ((x7).length + 1 < 17592186044416)) (j1 x0z x0 x1z x1 (x7 ++ ([(Go.bits .or .i64 (Go.bits .or .i64 (Go.bits .or .i64 (shlI .i64 (RowKit.wrap64 ((rdI x1 x8))) 24) (shlI .i64 (RowKit.wrap64 ((rdI x1 (RowKit.wrap64 (x8 + 1))))) 16)) (shlI .i64 (RowKit.wrap64 ((rdI x1 (RowKit.wrap64 (x8 + 2))))) 8)) (RowKit.wrap64 ((rdI x1 (RowKit.wrap64 (x8 + 3))))))] : List Int)) (RowKit.wrap64 (x8 + 4))) (none)) (none)) (none)) (none)) (none)) (none)) (none)) (none)) (none)) (j2 x0z x0 x7 16)
def spec_ShaBlock.l2b {R : Type} (ret : Bool × List Int → Option R) (j0 : Bool → (List Int) → Bool → (List Int) → Bool → (List Int) → Int → Int → Option R) (j1 : Bool → (List Int) → Bool → (List Int) → (List Int) → Int → Option R) (j2 : Bool → (List Int) → (List Int) → Int → Option R) (j3 : Bool → (List Int) → (List Int) → Bool → (List Int) → Bool → (List Int) → Int → Option R) (j4 : Bool → (List Int) → Bool → (List Int) → (List Int) → Int → Int → Option R) (k : Nat) (x0z : Bool) (x0 : List Int) (x7 : List Int) (x9 : Int) : Option R :=
  cond (decide (x9 < 64)) (cond (decide ((0 : Int) ≤ (RowKit.wrap64 (x9 - 15)))) (cond (decide ((RowKit.wrap64 (x9 - 15)) < ((x7).length : Int))) (cond (decide ((0 : Int) ≤ (RowKit.wrap64 (x9 - 2)))) (cond (decide ((RowKit.wrap64 (x9 - 2)) < ((x7).length : Int))) ((spec_l04Turn.f k (rdI x7 (RowKit.wrap64 (x9 - 15))) 7).bind fun t0 => (spec_l04Turn.f k (rdI x7 (RowKit.wrap64 (x9 - 15))) 18).bind fun t1 => (spec_l04Turn.f k (rdI x7 (RowKit.wrap64 (x9 - 2))) 17).bind fun t2 => (spec_l04Turn.f k (rdI x7 (RowKit.wrap64 (x9 - 2))) 19).bind fun t3 => cond (decide ((0 : Int) ≤ (RowKit.wrap64 (x9 - 16)))) (cond (decide ((RowKit.wrap64 (x9 - 16)) < ((x7).length : Int))) (cond (decide ((0 : Int) ≤ (RowKit.wrap64 (x9 - 7)))) (cond (decide ((RowKit.wrap64 (x9 - 7)) < ((x7).length : Int))) (cond (decide ((x7).length + 1 < 17592186044416)) (j2 x0z x0 (x7 ++ ([(Go.bits .and .i64 (RowKit.wrap64 ((RowKit.wrap64 ((RowKit.wrap64 ((rdI x7 (RowKit.wrap64 (x9 - 16))) + (Go.bits .xor .i64 (Go.bits .xor .i64 t0 t1) (shrI .i64 (rdI x7 (RowKit.wrap64 (x9 - 15))) 3)))) + (rdI x7 (RowKit.wrap64 (x9 - 7))))) + (Go.bits .xor .i64 (Go.bits .xor .i64 t2 t3) (shrI .i64 (rdI x7 (RowKit.wrap64 (x9 - 2))) 10)))) 4294967295)] : List Int)) (RowKit.wrap64 (x9 + 1))) (none)) (none)) (none)) (none)) (none)) (none)) (none)) (none)) (none)) ((spec_l04K.f k).bind fun t0 => cond (decide (0 + (x0).length < 17592186044416)) (j3 x0z x0 x7 t0.1 t0.2 ((x0).isEmpty && false) x0 0) (none))
def spec_ShaBlock.l3b {R : Type} (ret : Bool × List Int → Option R) (j0 : Bool → (List Int) → Bool → (List Int) → Bool → (List Int) → Int → Int → Option R) (j1 : Bool → (List Int) → Bool → (List Int) → (List Int) → Int → Option R) (j2 : Bool → (List Int) → (List Int) → Int → Option R) (j3 : Bool → (List Int) → (List Int) → Bool → (List Int) → Bool → (List Int) → Int → Option R) (j4 : Bool → (List Int) → Bool → (List Int) → (List Int) → Int → Int → Option R) (k : Nat) (x0z : Bool) (x0 : List Int) (x7 : List Int) (x14z : Bool) (x14 : List Int) (x15z : Bool) (x15 : List Int) (x16 : Int) : Option R :=
  cond (decide (x16 < 64)) (cond (decide ((4 : Int) < ((x15).length : Int))) (cond (decide ((0 : Int) < ((x15).length : Int))) (cond (decide ((7 : Int) < ((x15).length : Int))) ((spec_l04Turn.f k (rdI x15 4) 6).bind fun t0 => (spec_l04Turn.f k (rdI x15 4) 11).bind fun t1 => (spec_l04Turn.f k (rdI x15 4) 25).bind fun t2 => cond (decide ((5 : Int) < ((x15).length : Int))) (cond (decide ((6 : Int) < ((x15).length : Int))) (cond (decide ((0 : Int) ≤ x16)) (cond (decide (x16 < ((x14).length : Int))) (cond (decide ((0 : Int) ≤ x16)) (cond (decide (x16 < ((x7).length : Int))) ((spec_l04Turn.f k (rdI x15 0) 2).bind fun t3 => (spec_l04Turn.f k (rdI x15 0) 13).bind fun t4 => (spec_l04Turn.f k (rdI x15 0) 22).bind fun t5 => cond (decide ((1 : Int) < ((x15).length : Int))) (cond (decide ((2 : Int) < ((x15).length : Int))) (cond (decide ((1 : Int) < ((x15).length : Int))) (cond (decide ((2 : Int) < ((x15).length : Int))) (cond (decide ((0 : Int) < ((x15).length : Int))) (cond (decide ((1 : Int) < ((x15).length : Int))) (cond (decide ((2 : Int) < ((x15).length : Int))) (cond (decide ((3 : Int) < ((x15).length : Int))) (cond (decide ((4 : Int) < ((x15).length : Int))) (cond (decide ((5 : Int) < ((x15).length : Int))) (cond (decide ((6 : Int) < ((x15).length : Int))) (j3 x0z x0 x7 x14z x14 false ([(Go.bits .and .i64 (RowKit.wrap64 ((RowKit.wrap64 ((RowKit.wrap64 ((RowKit.wrap64 ((RowKit.wrap64 ((rdI x15 7) + (Go.bits .xor .i64 (Go.bits .xor .i64 t0 t1) t2))) + (Go.bits .xor .i64 (Go.bits .and .i64 (rdI x15 4) (rdI x15 5)) (Go.bits .and .i64 (Go.bits .xor .i64 4294967295 (rdI x15 4)) (rdI x15 6))))) + (rdI x14 x16))) + (rdI x7 x16))) + (RowKit.wrap64 ((Go.bits .xor .i64 (Go.bits .xor .i64 t3 t4) t5) + (Go.bits .xor .i64 (Go.bits .xor .i64 (Go.bits .and .i64 (rdI x15 0) (rdI x15 1)) (Go.bits .and .i64 (rdI x15 0) (rdI x15 2))) (Go.bits .and .i64 (rdI x15 1) (rdI x15 2))))))) 4294967295), (rdI x15 0), (rdI x15 1), (rdI x15 2), (Go.bits .and .i64 (RowKit.wrap64 ((rdI x15 3) + (RowKit.wrap64 ((RowKit.wrap64 ((RowKit.wrap64 ((RowKit.wrap64 ((rdI x15 7) + (Go.bits .xor .i64 (Go.bits .xor .i64 t0 t1) t2))) + (Go.bits .xor .i64 (Go.bits .and .i64 (rdI x15 4) (rdI x15 5)) (Go.bits .and .i64 (Go.bits .xor .i64 4294967295 (rdI x15 4)) (rdI x15 6))))) + (rdI x14 x16))) + (rdI x7 x16))))) 4294967295), (rdI x15 4), (rdI x15 5), (rdI x15 6)] : List Int) (RowKit.wrap64 (x16 + 1))) (none)) (none)) (none)) (none)) (none)) (none)) (none)) (none)) (none)) (none)) (none)) (none)) (none)) (none)) (none)) (none)) (none)) (none)) (none)) (none)) (j4 x0z x0 x15z x15 ([] : List Int) ((x0).length : Int) 0)
def spec_ShaBlock.l4b {R : Type} (ret : Bool × List Int → Option R) (j0 : Bool → (List Int) → Bool → (List Int) → Bool → (List Int) → Int → Int → Option R) (j1 : Bool → (List Int) → Bool → (List Int) → (List Int) → Int → Option R) (j2 : Bool → (List Int) → (List Int) → Int → Option R) (j3 : Bool → (List Int) → (List Int) → Bool → (List Int) → Bool → (List Int) → Int → Option R) (j4 : Bool → (List Int) → Bool → (List Int) → (List Int) → Int → Int → Option R) (k : Nat) (x0z : Bool) (x0 : List Int) (x15z : Bool) (x15 : List Int) (x21 : List Int) (x235 : Int) (x236 : Int) : Option R :=
  cond (decide (x236 < x235)) (cond (decide ((0 : Int) ≤ x236)) (cond (decide (x236 < ((x0).length : Int))) (cond (decide ((0 : Int) ≤ x236)) (cond (decide (x236 < ((x15).length : Int))) (cond (decide ((x21).length + 1 < 17592186044416)) (j4 x0z x0 x15z x15 (x21 ++ ([(Go.bits .and .i64 (RowKit.wrap64 ((rdI x0 x236) + (rdI x15 x236))) 4294967295)] : List Int)) x235 (RowKit.wrap64 (x236 + 1))) (none)) (none)) (none)) (none)) (none)) (ret (false, x21))
mutual
def spec_ShaBlock.l0 : Nat → Bool → (List Int) → Bool → (List Int) → Bool → (List Int) → Int → Int → Option (Bool × List Int)
  | 0, _, _, _, _, _, _, _, _ => none
  | k + 1, x0z, x0, x1z, x1, x31z, x31, x32, x33 => spec_ShaBlock.l0b some (spec_ShaBlock.l0 k) (spec_ShaBlock.l1 k) (spec_ShaBlock.l2 k) (spec_ShaBlock.l3 k) (spec_ShaBlock.l4 k) k x0z x0 x1z x1 x31z x31 x32 x33
def spec_ShaBlock.l1 : Nat → Bool → (List Int) → Bool → (List Int) → (List Int) → Int → Option (Bool × List Int)
  | 0, _, _, _, _, _, _ => none
  | k + 1, x0z, x0, x1z, x1, x7, x8 => spec_ShaBlock.l1b some (spec_ShaBlock.l0 k) (spec_ShaBlock.l1 k) (spec_ShaBlock.l2 k) (spec_ShaBlock.l3 k) (spec_ShaBlock.l4 k) k x0z x0 x1z x1 x7 x8
def spec_ShaBlock.l2 : Nat → Bool → (List Int) → (List Int) → Int → Option (Bool × List Int)
  | 0, _, _, _, _ => none
  | k + 1, x0z, x0, x7, x9 => spec_ShaBlock.l2b some (spec_ShaBlock.l0 k) (spec_ShaBlock.l1 k) (spec_ShaBlock.l2 k) (spec_ShaBlock.l3 k) (spec_ShaBlock.l4 k) k x0z x0 x7 x9
def spec_ShaBlock.l3 : Nat → Bool → (List Int) → (List Int) → Bool → (List Int) → Bool → (List Int) → Int → Option (Bool × List Int)
  | 0, _, _, _, _, _, _, _, _ => none
  | k + 1, x0z, x0, x7, x14z, x14, x15z, x15, x16 => spec_ShaBlock.l3b some (spec_ShaBlock.l0 k) (spec_ShaBlock.l1 k) (spec_ShaBlock.l2 k) (spec_ShaBlock.l3 k) (spec_ShaBlock.l4 k) k x0z x0 x7 x14z x14 x15z x15 x16
def spec_ShaBlock.l4 : Nat → Bool → (List Int) → Bool → (List Int) → (List Int) → Int → Int → Option (Bool × List Int)
  | 0, _, _, _, _, _, _, _ => none
  | k + 1, x0z, x0, x15z, x15, x21, x235, x236 => spec_ShaBlock.l4b some (spec_ShaBlock.l0 k) (spec_ShaBlock.l1 k) (spec_ShaBlock.l2 k) (spec_ShaBlock.l3 k) (spec_ShaBlock.l4 k) k x0z x0 x15z x15 x21 x235 x236
end
def spec_ShaBlock.f : Nat → Bool → (List Int) → Bool → (List Int) → Option (Bool × List Int)
  | 0, _, _, _, _ => none
  | k + 1, a0z, a0, a1z, a1 => spec_ShaBlock.b some (spec_ShaBlock.l0 k) (spec_ShaBlock.l1 k) (spec_ShaBlock.l2 k) (spec_ShaBlock.l3 k) (spec_ShaBlock.l4 k) k a0z a0 a1z a1
def spec_ShaBlock.enc (r : Bool × List Int) : Res := ⟨[.vals false [((.nums 3 .i64 r.1 r.2), true)]], []⟩
def spec_ShaBlock.ans (k : Nat) : List Arg → Ans
  | [.v (.nums 3 .i64 a0z a0), .v (.nums 5 .u8 a1z a1)] => ⟨spec_ShaBlock.f k a0z a0 a1z a1, spec_ShaBlock.enc⟩
  | _ => Ans.no
def spec_ShaBlock.Cs (k : Nat) : CallSem := tab [(105, spec_l04Word.ans k), (106, spec_l04Turn.ans k), (107, spec_l04K.ans k)]
def spec_ShaBlock.cuts : List (Nat × Keep) := [(58, ⟨[(0, some []), (1, some []), (31, some []), (32, some []), (33, some [])], []⟩), (250, ⟨[(0, some []), (1, some []), (7, none), (8, some [])], []⟩), (506, ⟨[(0, some []), (7, none), (9, some [])], []⟩), (4090, ⟨[(0, some []), (7, none), (14, none), (15, none), (16, some [])], []⟩), (16378, ⟨[(0, some []), (15, none), (21, none), (235, some []), (236, some [])], []⟩)]
noncomputable def spec_ShaBlock.K0 : List Fr := framesAt [true, true, false, true, false] (bodyOf Try.f99 spec_ShaBlock.cuts) []
def spec_ShaBlock.N0 (x0z : Bool) (x0 : List Int) (x1z : Bool) (x1 : List Int) (x31z : Bool) (x31 : List Int) (x32 : Int) (x33 : Int) : St := stOf 254 254 2 [(0, .val ⟨(.nums 3 .i64 x0z x0), [], false, none⟩), (1, .val ⟨(.nums 5 .u8 x1z x1), [], false, none⟩), (31, .val ⟨(.nums 3 .i64 x31z x31), [], false, none⟩), (32, .val (V.s (.int .i64 x32))), (33, .val (V.s (.int .i64 x33)))] []
noncomputable def spec_ShaBlock.K1 : List Fr := framesAt [true, true, true, true, false, true, false] (bodyOf Try.f99 spec_ShaBlock.cuts) []
def spec_ShaBlock.N1 (x0z : Bool) (x0 : List Int) (x1z : Bool) (x1 : List Int) (x7 : List Int) (x8 : Int) : St := stOf 254 254 2 [(0, .val ⟨(.nums 3 .i64 x0z x0), [], false, none⟩), (1, .val ⟨(.nums 5 .u8 x1z x1), [], false, none⟩), (7, .val ⟨(.nums 3 .i64 false x7), [.l 7 0], true, some (.l 7 0)⟩), (8, .val (V.s (.int .i64 x8)))] []
noncomputable def spec_ShaBlock.K2 : List Fr := framesAt [true, true, true, true, true, false, true, false] (bodyOf Try.f99 spec_ShaBlock.cuts) []
def spec_ShaBlock.N2 (x0z : Bool) (x0 : List Int) (x7 : List Int) (x9 : Int) : St := stOf 254 254 2 [(0, .val ⟨(.nums 3 .i64 x0z x0), [], false, none⟩), (7, .val ⟨(.nums 3 .i64 false x7), [.l 7 0], true, some (.l 7 0)⟩), (9, .val (V.s (.int .i64 x9)))] []
noncomputable def spec_ShaBlock.K3 : List Fr := framesAt [true, true, true, true, true, true, true, true, false, true, false] (bodyOf Try.f99 spec_ShaBlock.cuts) []
def spec_ShaBlock.N3 (x0z : Bool) (x0 : List Int) (x7 : List Int) (x14z : Bool) (x14 : List Int) (x15z : Bool) (x15 : List Int) (x16 : Int) : St := stOf 254 254 2 [(0, .val ⟨(.nums 3 .i64 x0z x0), [], false, none⟩), (7, .val ⟨(.nums 3 .i64 false x7), [.l 7 0], true, some (.l 7 0)⟩), (14, .val ⟨(.nums 3 .i64 x14z x14), [.l 14 0], true, some (.l 14 0)⟩), (15, .val ⟨(.nums 3 .i64 x15z x15), [.l 15 0], true, some (.l 15 0)⟩), (16, .val (V.s (.int .i64 x16)))] []
noncomputable def spec_ShaBlock.K4 : List Fr := framesAt [true, true, true, true, true, true, true, true, true, true, false, true, false] (bodyOf Try.f99 spec_ShaBlock.cuts) []
def spec_ShaBlock.N4 (x0z : Bool) (x0 : List Int) (x15z : Bool) (x15 : List Int) (x21 : List Int) (x235 : Int) (x236 : Int) : St := stOf 254 254 2 [(0, .val ⟨(.nums 3 .i64 x0z x0), [], false, none⟩), (15, .val ⟨(.nums 3 .i64 x15z x15), [.l 15 0], true, some (.l 15 0)⟩), (21, .val ⟨(.nums 3 .i64 false x21), [.l 21 0], true, some (.l 21 0)⟩), (235, .val (V.s (.int .i64 x235))), (236, .val (V.s (.int .i64 x236)))] []
theorem spec_ShaBlock.s (k : Nat) (a0z : Bool) (a0 : List Int) (a1z : Bool) (a1 : List Int) : answer Try.prog spec_ShaBlock.Cs 100000 spec_ShaBlock.cuts [] Try.f99 (k + 1) [.v (.nums 3 .i64 a0z a0), .v (.nums 5 .u8 a1z a1)] = spec_ShaBlock.b (fun r => some (spec_ShaBlock.enc r)) (fun x0z x0 x1z x1 x31z x31 x32 x33 => rounds Try.prog spec_ShaBlock.Cs (finish Try.prog [] Try.f99 [.v (.nums 3 .i64 a0z a0), .v (.nums 5 .u8 a1z a1)]) 100000 k spec_ShaBlock.K0 (spec_ShaBlock.N0 x0z x0 x1z x1 x31z x31 x32 x33)) (fun x0z x0 x1z x1 x7 x8 => rounds Try.prog spec_ShaBlock.Cs (finish Try.prog [] Try.f99 [.v (.nums 3 .i64 a0z a0), .v (.nums 5 .u8 a1z a1)]) 100000 k spec_ShaBlock.K1 (spec_ShaBlock.N1 x0z x0 x1z x1 x7 x8)) (fun x0z x0 x7 x9 => rounds Try.prog spec_ShaBlock.Cs (finish Try.prog [] Try.f99 [.v (.nums 3 .i64 a0z a0), .v (.nums 5 .u8 a1z a1)]) 100000 k spec_ShaBlock.K2 (spec_ShaBlock.N2 x0z x0 x7 x9)) (fun x0z x0 x7 x14z x14 x15z x15 x16 => rounds Try.prog spec_ShaBlock.Cs (finish Try.prog [] Try.f99 [.v (.nums 3 .i64 a0z a0), .v (.nums 5 .u8 a1z a1)]) 100000 k spec_ShaBlock.K3 (spec_ShaBlock.N3 x0z x0 x7 x14z x14 x15z x15 x16)) (fun x0z x0 x15z x15 x21 x235 x236 => rounds Try.prog spec_ShaBlock.Cs (finish Try.prog [] Try.f99 [.v (.nums 3 .i64 a0z a0), .v (.nums 5 .u8 a1z a1)]) 100000 k spec_ShaBlock.K4 (spec_ShaBlock.N4 x0z x0 x15z x15 x21 x235 x236)) k a0z a0 a1z a1 := by kernel_rfl
theorem spec_ShaBlock.s0 (k : Nat) (G : List Fr → St → Option Res) (a0z : Bool) (a0 : List Int) (a1z : Bool) (a1 : List Int) (yx0z : Bool) (yx0 : List Int) (yx1z : Bool) (yx1 : List Int) (yx31z : Bool) (yx31 : List Int) (yx32 : Int) (yx33 : Int) : resume Try.prog (spec_ShaBlock.Cs k) G (finish Try.prog [] Try.f99 [.v (.nums 3 .i64 a0z a0), .v (.nums 5 .u8 a1z a1)]) 100000 spec_ShaBlock.K0 (spec_ShaBlock.N0 yx0z yx0 yx1z yx1 yx31z yx31 yx32 yx33) = spec_ShaBlock.l0b (fun r => some (spec_ShaBlock.enc r)) (fun x0z x0 x1z x1 x31z x31 x32 x33 => G spec_ShaBlock.K0 (spec_ShaBlock.N0 x0z x0 x1z x1 x31z x31 x32 x33)) (fun x0z x0 x1z x1 x7 x8 => G spec_ShaBlock.K1 (spec_ShaBlock.N1 x0z x0 x1z x1 x7 x8)) (fun x0z x0 x7 x9 => G spec_ShaBlock.K2 (spec_ShaBlock.N2 x0z x0 x7 x9)) (fun x0z x0 x7 x14z x14 x15z x15 x16 => G spec_ShaBlock.K3 (spec_ShaBlock.N3 x0z x0 x7 x14z x14 x15z x15 x16)) (fun x0z x0 x15z x15 x21 x235 x236 => G spec_ShaBlock.K4 (spec_ShaBlock.N4 x0z x0 x15z x15 x21 x235 x236)) k yx0z yx0 yx1z yx1 yx31z yx31 yx32 yx33 := by kernel_rfl
theorem spec_ShaBlock.s1 (k : Nat) (G : List Fr → St → Option Res) (a0z : Bool) (a0 : List Int) (a1z : Bool) (a1 : List Int) (yx0z : Bool) (yx0 : List Int) (yx1z : Bool) (yx1 : List Int) (yx7 : List Int) (yx8 : Int) : resume Try.prog (spec_ShaBlock.Cs k) G (finish Try.prog [] Try.f99 [.v (.nums 3 .i64 a0z a0), .v (.nums 5 .u8 a1z a1)]) 100000 spec_ShaBlock.K1 (spec_ShaBlock.N1 yx0z yx0 yx1z yx1 yx7 yx8) = spec_ShaBlock.l1b (fun r => some (spec_ShaBlock.enc r)) (fun x0z x0 x1z x1 x31z x31 x32 x33 => G spec_ShaBlock.K0 (spec_ShaBlock.N0 x0z x0 x1z x1 x31z x31 x32 x33)) (fun x0z x0 x1z x1 x7 x8 => G spec_ShaBlock.K1 (spec_ShaBlock.N1 x0z x0 x1z x1 x7 x8)) (fun x0z x0 x7 x9 => G spec_ShaBlock.K2 (spec_ShaBlock.N2 x0z x0 x7 x9)) (fun x0z x0 x7 x14z x14 x15z x15 x16 => G spec_ShaBlock.K3 (spec_ShaBlock.N3 x0z x0 x7 x14z x14 x15z x15 x16)) (fun x0z x0 x15z x15 x21 x235 x236 => G spec_ShaBlock.K4 (spec_ShaBlock.N4 x0z x0 x15z x15 x21 x235 x236)) k yx0z yx0 yx1z yx1 yx7 yx8 := by kernel_rfl
theorem spec_ShaBlock.s2 (k : Nat) (G : List Fr → St → Option Res) (a0z : Bool) (a0 : List Int) (a1z : Bool) (a1 : List Int) (yx0z : Bool) (yx0 : List Int) (yx7 : List Int) (yx9 : Int) : resume Try.prog (spec_ShaBlock.Cs k) G (finish Try.prog [] Try.f99 [.v (.nums 3 .i64 a0z a0), .v (.nums 5 .u8 a1z a1)]) 100000 spec_ShaBlock.K2 (spec_ShaBlock.N2 yx0z yx0 yx7 yx9) = spec_ShaBlock.l2b (fun r => some (spec_ShaBlock.enc r)) (fun x0z x0 x1z x1 x31z x31 x32 x33 => G spec_ShaBlock.K0 (spec_ShaBlock.N0 x0z x0 x1z x1 x31z x31 x32 x33)) (fun x0z x0 x1z x1 x7 x8 => G spec_ShaBlock.K1 (spec_ShaBlock.N1 x0z x0 x1z x1 x7 x8)) (fun x0z x0 x7 x9 => G spec_ShaBlock.K2 (spec_ShaBlock.N2 x0z x0 x7 x9)) (fun x0z x0 x7 x14z x14 x15z x15 x16 => G spec_ShaBlock.K3 (spec_ShaBlock.N3 x0z x0 x7 x14z x14 x15z x15 x16)) (fun x0z x0 x15z x15 x21 x235 x236 => G spec_ShaBlock.K4 (spec_ShaBlock.N4 x0z x0 x15z x15 x21 x235 x236)) k yx0z yx0 yx7 yx9 := by kernel_rfl
theorem spec_ShaBlock.s3 (k : Nat) (G : List Fr → St → Option Res) (a0z : Bool) (a0 : List Int) (a1z : Bool) (a1 : List Int) (yx0z : Bool) (yx0 : List Int) (yx7 : List Int) (yx14z : Bool) (yx14 : List Int) (yx15z : Bool) (yx15 : List Int) (yx16 : Int) : resume Try.prog (spec_ShaBlock.Cs k) G (finish Try.prog [] Try.f99 [.v (.nums 3 .i64 a0z a0), .v (.nums 5 .u8 a1z a1)]) 100000 spec_ShaBlock.K3 (spec_ShaBlock.N3 yx0z yx0 yx7 yx14z yx14 yx15z yx15 yx16) = spec_ShaBlock.l3b (fun r => some (spec_ShaBlock.enc r)) (fun x0z x0 x1z x1 x31z x31 x32 x33 => G spec_ShaBlock.K0 (spec_ShaBlock.N0 x0z x0 x1z x1 x31z x31 x32 x33)) (fun x0z x0 x1z x1 x7 x8 => G spec_ShaBlock.K1 (spec_ShaBlock.N1 x0z x0 x1z x1 x7 x8)) (fun x0z x0 x7 x9 => G spec_ShaBlock.K2 (spec_ShaBlock.N2 x0z x0 x7 x9)) (fun x0z x0 x7 x14z x14 x15z x15 x16 => G spec_ShaBlock.K3 (spec_ShaBlock.N3 x0z x0 x7 x14z x14 x15z x15 x16)) (fun x0z x0 x15z x15 x21 x235 x236 => G spec_ShaBlock.K4 (spec_ShaBlock.N4 x0z x0 x15z x15 x21 x235 x236)) k yx0z yx0 yx7 yx14z yx14 yx15z yx15 yx16 := by kernel_rfl
theorem spec_ShaBlock.s4 (k : Nat) (G : List Fr → St → Option Res) (a0z : Bool) (a0 : List Int) (a1z : Bool) (a1 : List Int) (yx0z : Bool) (yx0 : List Int) (yx15z : Bool) (yx15 : List Int) (yx21 : List Int) (yx235 : Int) (yx236 : Int) : resume Try.prog (spec_ShaBlock.Cs k) G (finish Try.prog [] Try.f99 [.v (.nums 3 .i64 a0z a0), .v (.nums 5 .u8 a1z a1)]) 100000 spec_ShaBlock.K4 (spec_ShaBlock.N4 yx0z yx0 yx15z yx15 yx21 yx235 yx236) = spec_ShaBlock.l4b (fun r => some (spec_ShaBlock.enc r)) (fun x0z x0 x1z x1 x31z x31 x32 x33 => G spec_ShaBlock.K0 (spec_ShaBlock.N0 x0z x0 x1z x1 x31z x31 x32 x33)) (fun x0z x0 x1z x1 x7 x8 => G spec_ShaBlock.K1 (spec_ShaBlock.N1 x0z x0 x1z x1 x7 x8)) (fun x0z x0 x7 x9 => G spec_ShaBlock.K2 (spec_ShaBlock.N2 x0z x0 x7 x9)) (fun x0z x0 x7 x14z x14 x15z x15 x16 => G spec_ShaBlock.K3 (spec_ShaBlock.N3 x0z x0 x7 x14z x14 x15z x15 x16)) (fun x0z x0 x15z x15 x21 x235 x236 => G spec_ShaBlock.K4 (spec_ShaBlock.N4 x0z x0 x15z x15 x21 x235 x236)) k yx0z yx0 yx15z yx15 yx21 yx235 yx236 := by kernel_rfl
theorem spec_ShaBlock.b_nat {R R' : Type} (e : R → R') (ret : Bool × List Int → Option R) (j0 : Bool → (List Int) → Bool → (List Int) → Bool → (List Int) → Int → Int → Option R) (j1 : Bool → (List Int) → Bool → (List Int) → (List Int) → Int → Option R) (j2 : Bool → (List Int) → (List Int) → Int → Option R) (j3 : Bool → (List Int) → (List Int) → Bool → (List Int) → Bool → (List Int) → Int → Option R) (j4 : Bool → (List Int) → Bool → (List Int) → (List Int) → Int → Int → Option R) (k : Nat) (a0z : Bool) (a0 : List Int) (a1z : Bool) (a1 : List Int) : spec_ShaBlock.b (fun r => (ret r).map e) (fun x0z x0 x1z x1 x31z x31 x32 x33 => (j0 x0z x0 x1z x1 x31z x31 x32 x33).map e) (fun x0z x0 x1z x1 x7 x8 => (j1 x0z x0 x1z x1 x7 x8).map e) (fun x0z x0 x7 x9 => (j2 x0z x0 x7 x9).map e) (fun x0z x0 x7 x14z x14 x15z x15 x16 => (j3 x0z x0 x7 x14z x14 x15z x15 x16).map e) (fun x0z x0 x15z x15 x21 x235 x236 => (j4 x0z x0 x15z x15 x21 x235 x236).map e) k a0z a0 a1z a1 = (spec_ShaBlock.b ret j0 j1 j2 j3 j4 k a0z a0 a1z a1).map e := by
  unfold spec_ShaBlock.b
  repeat' first | with_reducible refine nat_cond ?_ ?_ | with_reducible refine nat_bind fun _ => ?_ | rfl
theorem spec_ShaBlock.l0b_nat {R R' : Type} (e : R → R') (ret : Bool × List Int → Option R) (j0 : Bool → (List Int) → Bool → (List Int) → Bool → (List Int) → Int → Int → Option R) (j1 : Bool → (List Int) → Bool → (List Int) → (List Int) → Int → Option R) (j2 : Bool → (List Int) → (List Int) → Int → Option R) (j3 : Bool → (List Int) → (List Int) → Bool → (List Int) → Bool → (List Int) → Int → Option R) (j4 : Bool → (List Int) → Bool → (List Int) → (List Int) → Int → Int → Option R) (k : Nat) (x0z : Bool) (x0 : List Int) (x1z : Bool) (x1 : List Int) (x31z : Bool) (x31 : List Int) (x32 : Int) (x33 : Int) : spec_ShaBlock.l0b (fun r => (ret r).map e) (fun x0z x0 x1z x1 x31z x31 x32 x33 => (j0 x0z x0 x1z x1 x31z x31 x32 x33).map e) (fun x0z x0 x1z x1 x7 x8 => (j1 x0z x0 x1z x1 x7 x8).map e) (fun x0z x0 x7 x9 => (j2 x0z x0 x7 x9).map e) (fun x0z x0 x7 x14z x14 x15z x15 x16 => (j3 x0z x0 x7 x14z x14 x15z x15 x16).map e) (fun x0z x0 x15z x15 x21 x235 x236 => (j4 x0z x0 x15z x15 x21 x235 x236).map e) k x0z x0 x1z x1 x31z x31 x32 x33 = (spec_ShaBlock.l0b ret j0 j1 j2 j3 j4 k x0z x0 x1z x1 x31z x31 x32 x33).map e := by
  unfold spec_ShaBlock.l0b
  repeat' first | with_reducible refine nat_cond ?_ ?_ | with_reducible refine nat_bind fun _ => ?_ | rfl
theorem spec_ShaBlock.l1b_nat {R R' : Type} (e : R → R') (ret : Bool × List Int → Option R) (j0 : Bool → (List Int) → Bool → (List Int) → Bool → (List Int) → Int → Int → Option R) (j1 : Bool → (List Int) → Bool → (List Int) → (List Int) → Int → Option R) (j2 : Bool → (List Int) → (List Int) → Int → Option R) (j3 : Bool → (List Int) → (List Int) → Bool → (List Int) → Bool → (List Int) → Int → Option R) (j4 : Bool → (List Int) → Bool → (List Int) → (List Int) → Int → Int → Option R) (k : Nat) (x0z : Bool) (x0 : List Int) (x1z : Bool) (x1 : List Int) (x7 : List Int) (x8 : Int) : spec_ShaBlock.l1b (fun r => (ret r).map e) (fun x0z x0 x1z x1 x31z x31 x32 x33 => (j0 x0z x0 x1z x1 x31z x31 x32 x33).map e) (fun x0z x0 x1z x1 x7 x8 => (j1 x0z x0 x1z x1 x7 x8).map e) (fun x0z x0 x7 x9 => (j2 x0z x0 x7 x9).map e) (fun x0z x0 x7 x14z x14 x15z x15 x16 => (j3 x0z x0 x7 x14z x14 x15z x15 x16).map e) (fun x0z x0 x15z x15 x21 x235 x236 => (j4 x0z x0 x15z x15 x21 x235 x236).map e) k x0z x0 x1z x1 x7 x8 = (spec_ShaBlock.l1b ret j0 j1 j2 j3 j4 k x0z x0 x1z x1 x7 x8).map e := by
  unfold spec_ShaBlock.l1b
  repeat' first | with_reducible refine nat_cond ?_ ?_ | with_reducible refine nat_bind fun _ => ?_ | rfl
theorem spec_ShaBlock.l2b_nat {R R' : Type} (e : R → R') (ret : Bool × List Int → Option R) (j0 : Bool → (List Int) → Bool → (List Int) → Bool → (List Int) → Int → Int → Option R) (j1 : Bool → (List Int) → Bool → (List Int) → (List Int) → Int → Option R) (j2 : Bool → (List Int) → (List Int) → Int → Option R) (j3 : Bool → (List Int) → (List Int) → Bool → (List Int) → Bool → (List Int) → Int → Option R) (j4 : Bool → (List Int) → Bool → (List Int) → (List Int) → Int → Int → Option R) (k : Nat) (x0z : Bool) (x0 : List Int) (x7 : List Int) (x9 : Int) : spec_ShaBlock.l2b (fun r => (ret r).map e) (fun x0z x0 x1z x1 x31z x31 x32 x33 => (j0 x0z x0 x1z x1 x31z x31 x32 x33).map e) (fun x0z x0 x1z x1 x7 x8 => (j1 x0z x0 x1z x1 x7 x8).map e) (fun x0z x0 x7 x9 => (j2 x0z x0 x7 x9).map e) (fun x0z x0 x7 x14z x14 x15z x15 x16 => (j3 x0z x0 x7 x14z x14 x15z x15 x16).map e) (fun x0z x0 x15z x15 x21 x235 x236 => (j4 x0z x0 x15z x15 x21 x235 x236).map e) k x0z x0 x7 x9 = (spec_ShaBlock.l2b ret j0 j1 j2 j3 j4 k x0z x0 x7 x9).map e := by
  unfold spec_ShaBlock.l2b
  repeat' first | with_reducible refine nat_cond ?_ ?_ | with_reducible refine nat_bind fun _ => ?_ | rfl
theorem spec_ShaBlock.l3b_nat {R R' : Type} (e : R → R') (ret : Bool × List Int → Option R) (j0 : Bool → (List Int) → Bool → (List Int) → Bool → (List Int) → Int → Int → Option R) (j1 : Bool → (List Int) → Bool → (List Int) → (List Int) → Int → Option R) (j2 : Bool → (List Int) → (List Int) → Int → Option R) (j3 : Bool → (List Int) → (List Int) → Bool → (List Int) → Bool → (List Int) → Int → Option R) (j4 : Bool → (List Int) → Bool → (List Int) → (List Int) → Int → Int → Option R) (k : Nat) (x0z : Bool) (x0 : List Int) (x7 : List Int) (x14z : Bool) (x14 : List Int) (x15z : Bool) (x15 : List Int) (x16 : Int) : spec_ShaBlock.l3b (fun r => (ret r).map e) (fun x0z x0 x1z x1 x31z x31 x32 x33 => (j0 x0z x0 x1z x1 x31z x31 x32 x33).map e) (fun x0z x0 x1z x1 x7 x8 => (j1 x0z x0 x1z x1 x7 x8).map e) (fun x0z x0 x7 x9 => (j2 x0z x0 x7 x9).map e) (fun x0z x0 x7 x14z x14 x15z x15 x16 => (j3 x0z x0 x7 x14z x14 x15z x15 x16).map e) (fun x0z x0 x15z x15 x21 x235 x236 => (j4 x0z x0 x15z x15 x21 x235 x236).map e) k x0z x0 x7 x14z x14 x15z x15 x16 = (spec_ShaBlock.l3b ret j0 j1 j2 j3 j4 k x0z x0 x7 x14z x14 x15z x15 x16).map e := by
  unfold spec_ShaBlock.l3b
  repeat' first | with_reducible refine nat_cond ?_ ?_ | with_reducible refine nat_bind fun _ => ?_ | rfl
theorem spec_ShaBlock.l4b_nat {R R' : Type} (e : R → R') (ret : Bool × List Int → Option R) (j0 : Bool → (List Int) → Bool → (List Int) → Bool → (List Int) → Int → Int → Option R) (j1 : Bool → (List Int) → Bool → (List Int) → (List Int) → Int → Option R) (j2 : Bool → (List Int) → (List Int) → Int → Option R) (j3 : Bool → (List Int) → (List Int) → Bool → (List Int) → Bool → (List Int) → Int → Option R) (j4 : Bool → (List Int) → Bool → (List Int) → (List Int) → Int → Int → Option R) (k : Nat) (x0z : Bool) (x0 : List Int) (x15z : Bool) (x15 : List Int) (x21 : List Int) (x235 : Int) (x236 : Int) : spec_ShaBlock.l4b (fun r => (ret r).map e) (fun x0z x0 x1z x1 x31z x31 x32 x33 => (j0 x0z x0 x1z x1 x31z x31 x32 x33).map e) (fun x0z x0 x1z x1 x7 x8 => (j1 x0z x0 x1z x1 x7 x8).map e) (fun x0z x0 x7 x9 => (j2 x0z x0 x7 x9).map e) (fun x0z x0 x7 x14z x14 x15z x15 x16 => (j3 x0z x0 x7 x14z x14 x15z x15 x16).map e) (fun x0z x0 x15z x15 x21 x235 x236 => (j4 x0z x0 x15z x15 x21 x235 x236).map e) k x0z x0 x15z x15 x21 x235 x236 = (spec_ShaBlock.l4b ret j0 j1 j2 j3 j4 k x0z x0 x15z x15 x21 x235 x236).map e := by
  unfold spec_ShaBlock.l4b
  repeat' first | with_reducible refine nat_cond ?_ ?_ | with_reducible refine nat_bind fun _ => ?_ | rfl
theorem spec_ShaBlock.rounds_eq (a0z : Bool) (a0 : List Int) (a1z : Bool) (a1 : List Int) : ∀ k, (∀ (x0z : Bool) (x0 : List Int) (x1z : Bool) (x1 : List Int) (x31z : Bool) (x31 : List Int) (x32 : Int) (x33 : Int), rounds Try.prog spec_ShaBlock.Cs (finish Try.prog [] Try.f99 [.v (.nums 3 .i64 a0z a0), .v (.nums 5 .u8 a1z a1)]) 100000 k spec_ShaBlock.K0 (spec_ShaBlock.N0 x0z x0 x1z x1 x31z x31 x32 x33) = (spec_ShaBlock.l0 k x0z x0 x1z x1 x31z x31 x32 x33).map spec_ShaBlock.enc) ∧ (∀ (x0z : Bool) (x0 : List Int) (x1z : Bool) (x1 : List Int) (x7 : List Int) (x8 : Int), rounds Try.prog spec_ShaBlock.Cs (finish Try.prog [] Try.f99 [.v (.nums 3 .i64 a0z a0), .v (.nums 5 .u8 a1z a1)]) 100000 k spec_ShaBlock.K1 (spec_ShaBlock.N1 x0z x0 x1z x1 x7 x8) = (spec_ShaBlock.l1 k x0z x0 x1z x1 x7 x8).map spec_ShaBlock.enc) ∧ (∀ (x0z : Bool) (x0 : List Int) (x7 : List Int) (x9 : Int), rounds Try.prog spec_ShaBlock.Cs (finish Try.prog [] Try.f99 [.v (.nums 3 .i64 a0z a0), .v (.nums 5 .u8 a1z a1)]) 100000 k spec_ShaBlock.K2 (spec_ShaBlock.N2 x0z x0 x7 x9) = (spec_ShaBlock.l2 k x0z x0 x7 x9).map spec_ShaBlock.enc) ∧ (∀ (x0z : Bool) (x0 : List Int) (x7 : List Int) (x14z : Bool) (x14 : List Int) (x15z : Bool) (x15 : List Int) (x16 : Int), rounds Try.prog spec_ShaBlock.Cs (finish Try.prog [] Try.f99 [.v (.nums 3 .i64 a0z a0), .v (.nums 5 .u8 a1z a1)]) 100000 k spec_ShaBlock.K3 (spec_ShaBlock.N3 x0z x0 x7 x14z x14 x15z x15 x16) = (spec_ShaBlock.l3 k x0z x0 x7 x14z x14 x15z x15 x16).map spec_ShaBlock.enc) ∧ (∀ (x0z : Bool) (x0 : List Int) (x15z : Bool) (x15 : List Int) (x21 : List Int) (x235 : Int) (x236 : Int), rounds Try.prog spec_ShaBlock.Cs (finish Try.prog [] Try.f99 [.v (.nums 3 .i64 a0z a0), .v (.nums 5 .u8 a1z a1)]) 100000 k spec_ShaBlock.K4 (spec_ShaBlock.N4 x0z x0 x15z x15 x21 x235 x236) = (spec_ShaBlock.l4 k x0z x0 x15z x15 x21 x235 x236).map spec_ShaBlock.enc)
  | 0 => ⟨fun _ _ _ _ _ _ _ _ => rfl, fun _ _ _ _ _ _ => rfl, fun _ _ _ _ => rfl, fun _ _ _ _ _ _ _ _ => rfl, fun _ _ _ _ _ _ _ => rfl⟩
  | k + 1 => by
    have ih := spec_ShaBlock.rounds_eq a0z a0 a1z a1 k
    refine ⟨fun _ _ _ _ _ _ _ _ => ?_, fun _ _ _ _ _ _ => ?_, fun _ _ _ _ => ?_, fun _ _ _ _ _ _ _ _ => ?_, fun _ _ _ _ _ _ _ => ?_⟩
    · refine (spec_ShaBlock.s0 k _ a0z a0 a1z a1 _ _ _ _ _ _ _ _).trans (Eq.trans ?_ (spec_ShaBlock.l0b_nat spec_ShaBlock.enc some (spec_ShaBlock.l0 k) (spec_ShaBlock.l1 k) (spec_ShaBlock.l2 k) (spec_ShaBlock.l3 k) (spec_ShaBlock.l4 k) k _ _ _ _ _ _ _ _))
      simp only [ih.1, ih.2.1, ih.2.2.1, ih.2.2.2.1, ih.2.2.2.2, Option.map_some]
    · refine (spec_ShaBlock.s1 k _ a0z a0 a1z a1 _ _ _ _ _ _).trans (Eq.trans ?_ (spec_ShaBlock.l1b_nat spec_ShaBlock.enc some (spec_ShaBlock.l0 k) (spec_ShaBlock.l1 k) (spec_ShaBlock.l2 k) (spec_ShaBlock.l3 k) (spec_ShaBlock.l4 k) k _ _ _ _ _ _))
      simp only [ih.1, ih.2.1, ih.2.2.1, ih.2.2.2.1, ih.2.2.2.2, Option.map_some]
    · refine (spec_ShaBlock.s2 k _ a0z a0 a1z a1 _ _ _ _).trans (Eq.trans ?_ (spec_ShaBlock.l2b_nat spec_ShaBlock.enc some (spec_ShaBlock.l0 k) (spec_ShaBlock.l1 k) (spec_ShaBlock.l2 k) (spec_ShaBlock.l3 k) (spec_ShaBlock.l4 k) k _ _ _ _))
      simp only [ih.1, ih.2.1, ih.2.2.1, ih.2.2.2.1, ih.2.2.2.2, Option.map_some]
    · refine (spec_ShaBlock.s3 k _ a0z a0 a1z a1 _ _ _ _ _ _ _ _).trans (Eq.trans ?_ (spec_ShaBlock.l3b_nat spec_ShaBlock.enc some (spec_ShaBlock.l0 k) (spec_ShaBlock.l1 k) (spec_ShaBlock.l2 k) (spec_ShaBlock.l3 k) (spec_ShaBlock.l4 k) k _ _ _ _ _ _ _ _))
      simp only [ih.1, ih.2.1, ih.2.2.1, ih.2.2.2.1, ih.2.2.2.2, Option.map_some]
    · refine (spec_ShaBlock.s4 k _ a0z a0 a1z a1 _ _ _ _ _ _ _).trans (Eq.trans ?_ (spec_ShaBlock.l4b_nat spec_ShaBlock.enc some (spec_ShaBlock.l0 k) (spec_ShaBlock.l1 k) (spec_ShaBlock.l2 k) (spec_ShaBlock.l3 k) (spec_ShaBlock.l4 k) k _ _ _ _ _ _ _))
      simp only [ih.1, ih.2.1, ih.2.2.1, ih.2.2.2.1, ih.2.2.2.2, Option.map_some]
theorem spec_ShaBlock.eq (k : Nat) (a0z : Bool) (a0 : List Int) (a1z : Bool) (a1 : List Int) : answer Try.prog spec_ShaBlock.Cs 100000 spec_ShaBlock.cuts [] Try.f99 (k + 1) [.v (.nums 3 .i64 a0z a0), .v (.nums 5 .u8 a1z a1)] = (spec_ShaBlock.f (k + 1) a0z a0 a1z a1).map spec_ShaBlock.enc := by
  have ih := spec_ShaBlock.rounds_eq a0z a0 a1z a1 k
  refine (spec_ShaBlock.s k a0z a0 a1z a1).trans (Eq.trans ?_ (spec_ShaBlock.b_nat spec_ShaBlock.enc some (spec_ShaBlock.l0 k) (spec_ShaBlock.l1 k) (spec_ShaBlock.l2 k) (spec_ShaBlock.l3 k) (spec_ShaBlock.l4 k) k a0z a0 a1z a1))
  simp only [ih.1, ih.2.1, ih.2.2.1, ih.2.2.2.1, ih.2.2.2.2, Option.map_some]
theorem spec_ShaBlock.sound (k : Nat) : SoundF Try.prog 99 (fun a => (spec_ShaBlock.ans k a).val) := by
  refine sound_plain (fun args res h => ?_) (fun t n => rfl)
  unfold spec_ShaBlock.ans at h
  dsimp only at h
  split at h
  · cases k with
    | zero => cases h
    | succ k =>
      unfold Ans.val at h
      rw [← spec_ShaBlock.eq] at h
      exact answer_sound mixed Try.func99 _ _ _ (k + 1) (fun j _ => tab_sound (tab_cons (spec_l04Word.sound j) (tab_cons (spec_l04Turn.sound j) (tab_cons (spec_l04K.sound j) (tab_nil))))) _ _ h
  · exact (Ans.no_val h).elim

/-! loop.example/g00790/spec.Sha -/
def spec_Sha.b {R : Type} (ret : Bool × List Int → Option R) (j0 : Bool → (List Int) → Bool → (List Int) → Int → Option R) (j1 : (List Int) → Bool → (List Int) → Int → Int → Option R) (k : Nat) (a0z : Bool) (a0 : List Int) : Option R :=
  (spec_ShaInit.f k).bind fun t0 => (spec_ShaPad.f k a0z a0).bind fun t1 => j0 t0.1 t0.2 t1.1 t1.2 0
def spec_Sha.l0b {R : Type} (ret : Bool × List Int → Option R) (j0 : Bool → (List Int) → Bool → (List Int) → Int → Option R) (j1 : (List Int) → Bool → (List Int) → Int → Int → Option R) (k : Nat) (x3z : Bool) (x3 : List Int) (x4z : Bool) (x4 : List Int) (x5 : Int) : Option R :=
  cond (decide (x5 < ((x4).length : Int))) (cond (decide ((0 : Int) ≤ (RowKit.wrap64 (x5 + 64)))) (cond (decide ((RowKit.wrap64 (x5 + 64)) ≤ ((x4).length : Int))) (cond (decide ((0 : Int) ≤ x5)) (cond (decide (x5 ≤ (RowKit.wrap64 (x5 + 64)))) ((spec_ShaBlock.f k x3z x3 x4z (((x4).take ((RowKit.wrap64 (x5 + 64))).toNat).drop (x5).toNat)).bind fun t0 => j0 t0.1 t0.2 x4z x4 (RowKit.wrap64 (x5 + 64))) (none)) (none)) (none)) (none)) (j1 ([] : List Int) x3z x3 ((x3).length : Int) 0)
def spec_Sha.l1b {R : Type} (ret : Bool × List Int → Option R) (j0 : Bool → (List Int) → Bool → (List Int) → Int → Option R) (j1 : (List Int) → Bool → (List Int) → Int → Int → Option R) (k : Nat) (x6 : List Int) (x26z : Bool) (x26 : List Int) (x27 : Int) (x28 : Int) : Option R :=
  cond (decide (x28 < x27)) (cond (decide ((0 : Int) ≤ x28)) (cond (decide (x28 < ((x26).length : Int))) (cond (decide ((x6).length + 4 < 140737488355328)) (j1 (x6 ++ ([(((shrI .i64 (rdI x26 x28) 24)) % 256), (((shrI .i64 (rdI x26 x28) 16)) % 256), (((shrI .i64 (rdI x26 x28) 8)) % 256), (((rdI x26 x28)) % 256)] : List Int)) x26z x26 x27 (RowKit.wrap64 (x28 + 1))) (none)) (none)) (none)) (ret (false, x6))
mutual
def spec_Sha.l0 : Nat → Bool → (List Int) → Bool → (List Int) → Int → Option (Bool × List Int)
  | 0, _, _, _, _, _ => none
  | k + 1, x3z, x3, x4z, x4, x5 => spec_Sha.l0b some (spec_Sha.l0 k) (spec_Sha.l1 k) k x3z x3 x4z x4 x5
def spec_Sha.l1 : Nat → (List Int) → Bool → (List Int) → Int → Int → Option (Bool × List Int)
  | 0, _, _, _, _, _ => none
  | k + 1, x6, x26z, x26, x27, x28 => spec_Sha.l1b some (spec_Sha.l0 k) (spec_Sha.l1 k) k x6 x26z x26 x27 x28
end
def spec_Sha.f : Nat → Bool → (List Int) → Option (Bool × List Int)
  | 0, _, _ => none
  | k + 1, a0z, a0 => spec_Sha.b some (spec_Sha.l0 k) (spec_Sha.l1 k) k a0z a0
def spec_Sha.enc (r : Bool × List Int) : Res := ⟨[.vals false [((.nums 5 .u8 r.1 r.2), true)]], []⟩
def spec_Sha.ans (k : Nat) : List Arg → Ans
  | [.v (.nums 5 .u8 a0z a0)] => ⟨spec_Sha.f k a0z a0, spec_Sha.enc⟩
  | _ => Ans.no
def spec_Sha.Cs (k : Nat) : CallSem := tab [(97, spec_ShaInit.ans k), (98, spec_ShaPad.ans k), (99, spec_ShaBlock.ans k)]
def spec_Sha.cuts : List (Nat × Keep) := [(122, ⟨[(3, none), (4, none), (5, some [])], []⟩), (506, ⟨[(6, none), (26, none), (27, some []), (28, some [])], []⟩)]
noncomputable def spec_Sha.K0 : List Fr := framesAt [true, true, true, false, true, false] (bodyOf Try.f84 spec_Sha.cuts) []
def spec_Sha.N0 (x3z : Bool) (x3 : List Int) (x4z : Bool) (x4 : List Int) (x5 : Int) : St := stOf 48 48 1 [(3, .val ⟨(.nums 3 .i64 x3z x3), [.l 3 0], true, some (.l 3 0)⟩), (4, .val ⟨(.nums 5 .u8 x4z x4), [.l 4 0], true, some (.l 4 0)⟩), (5, .val (V.s (.int .i64 x5)))] []
noncomputable def spec_Sha.K1 : List Fr := framesAt [true, true, true, true, true, false, true, false] (bodyOf Try.f84 spec_Sha.cuts) []
def spec_Sha.N1 (x6 : List Int) (x26z : Bool) (x26 : List Int) (x27 : Int) (x28 : Int) : St := stOf 48 48 1 [(6, .val ⟨(.nums 5 .u8 false x6), [.l 6 0], true, some (.l 6 0)⟩), (26, .val ⟨(.nums 3 .i64 x26z x26), [.l 26 0], true, some (.l 26 0)⟩), (27, .val (V.s (.int .i64 x27))), (28, .val (V.s (.int .i64 x28)))] []
theorem spec_Sha.s (k : Nat) (a0z : Bool) (a0 : List Int) : answer Try.prog spec_Sha.Cs 100000 spec_Sha.cuts [] Try.f84 (k + 1) [.v (.nums 5 .u8 a0z a0)] = spec_Sha.b (fun r => some (spec_Sha.enc r)) (fun x3z x3 x4z x4 x5 => rounds Try.prog spec_Sha.Cs (finish Try.prog [] Try.f84 [.v (.nums 5 .u8 a0z a0)]) 100000 k spec_Sha.K0 (spec_Sha.N0 x3z x3 x4z x4 x5)) (fun x6 x26z x26 x27 x28 => rounds Try.prog spec_Sha.Cs (finish Try.prog [] Try.f84 [.v (.nums 5 .u8 a0z a0)]) 100000 k spec_Sha.K1 (spec_Sha.N1 x6 x26z x26 x27 x28)) k a0z a0 := by kernel_rfl
theorem spec_Sha.s0 (k : Nat) (G : List Fr → St → Option Res) (a0z : Bool) (a0 : List Int) (yx3z : Bool) (yx3 : List Int) (yx4z : Bool) (yx4 : List Int) (yx5 : Int) : resume Try.prog (spec_Sha.Cs k) G (finish Try.prog [] Try.f84 [.v (.nums 5 .u8 a0z a0)]) 100000 spec_Sha.K0 (spec_Sha.N0 yx3z yx3 yx4z yx4 yx5) = spec_Sha.l0b (fun r => some (spec_Sha.enc r)) (fun x3z x3 x4z x4 x5 => G spec_Sha.K0 (spec_Sha.N0 x3z x3 x4z x4 x5)) (fun x6 x26z x26 x27 x28 => G spec_Sha.K1 (spec_Sha.N1 x6 x26z x26 x27 x28)) k yx3z yx3 yx4z yx4 yx5 := by kernel_rfl
theorem spec_Sha.s1 (k : Nat) (G : List Fr → St → Option Res) (a0z : Bool) (a0 : List Int) (yx6 : List Int) (yx26z : Bool) (yx26 : List Int) (yx27 : Int) (yx28 : Int) : resume Try.prog (spec_Sha.Cs k) G (finish Try.prog [] Try.f84 [.v (.nums 5 .u8 a0z a0)]) 100000 spec_Sha.K1 (spec_Sha.N1 yx6 yx26z yx26 yx27 yx28) = spec_Sha.l1b (fun r => some (spec_Sha.enc r)) (fun x3z x3 x4z x4 x5 => G spec_Sha.K0 (spec_Sha.N0 x3z x3 x4z x4 x5)) (fun x6 x26z x26 x27 x28 => G spec_Sha.K1 (spec_Sha.N1 x6 x26z x26 x27 x28)) k yx6 yx26z yx26 yx27 yx28 := by kernel_rfl
theorem spec_Sha.b_nat {R R' : Type} (e : R → R') (ret : Bool × List Int → Option R) (j0 : Bool → (List Int) → Bool → (List Int) → Int → Option R) (j1 : (List Int) → Bool → (List Int) → Int → Int → Option R) (k : Nat) (a0z : Bool) (a0 : List Int) : spec_Sha.b (fun r => (ret r).map e) (fun x3z x3 x4z x4 x5 => (j0 x3z x3 x4z x4 x5).map e) (fun x6 x26z x26 x27 x28 => (j1 x6 x26z x26 x27 x28).map e) k a0z a0 = (spec_Sha.b ret j0 j1 k a0z a0).map e := by
  unfold spec_Sha.b
  repeat' first | with_reducible refine nat_cond ?_ ?_ | with_reducible refine nat_bind fun _ => ?_ | rfl
theorem spec_Sha.l0b_nat {R R' : Type} (e : R → R') (ret : Bool × List Int → Option R) (j0 : Bool → (List Int) → Bool → (List Int) → Int → Option R) (j1 : (List Int) → Bool → (List Int) → Int → Int → Option R) (k : Nat) (x3z : Bool) (x3 : List Int) (x4z : Bool) (x4 : List Int) (x5 : Int) : spec_Sha.l0b (fun r => (ret r).map e) (fun x3z x3 x4z x4 x5 => (j0 x3z x3 x4z x4 x5).map e) (fun x6 x26z x26 x27 x28 => (j1 x6 x26z x26 x27 x28).map e) k x3z x3 x4z x4 x5 = (spec_Sha.l0b ret j0 j1 k x3z x3 x4z x4 x5).map e := by
  unfold spec_Sha.l0b
  repeat' first | with_reducible refine nat_cond ?_ ?_ | with_reducible refine nat_bind fun _ => ?_ | rfl
theorem spec_Sha.l1b_nat {R R' : Type} (e : R → R') (ret : Bool × List Int → Option R) (j0 : Bool → (List Int) → Bool → (List Int) → Int → Option R) (j1 : (List Int) → Bool → (List Int) → Int → Int → Option R) (k : Nat) (x6 : List Int) (x26z : Bool) (x26 : List Int) (x27 : Int) (x28 : Int) : spec_Sha.l1b (fun r => (ret r).map e) (fun x3z x3 x4z x4 x5 => (j0 x3z x3 x4z x4 x5).map e) (fun x6 x26z x26 x27 x28 => (j1 x6 x26z x26 x27 x28).map e) k x6 x26z x26 x27 x28 = (spec_Sha.l1b ret j0 j1 k x6 x26z x26 x27 x28).map e := by
  unfold spec_Sha.l1b
  repeat' first | with_reducible refine nat_cond ?_ ?_ | with_reducible refine nat_bind fun _ => ?_ | rfl
theorem spec_Sha.rounds_eq (a0z : Bool) (a0 : List Int) : ∀ k, (∀ (x3z : Bool) (x3 : List Int) (x4z : Bool) (x4 : List Int) (x5 : Int), rounds Try.prog spec_Sha.Cs (finish Try.prog [] Try.f84 [.v (.nums 5 .u8 a0z a0)]) 100000 k spec_Sha.K0 (spec_Sha.N0 x3z x3 x4z x4 x5) = (spec_Sha.l0 k x3z x3 x4z x4 x5).map spec_Sha.enc) ∧ (∀ (x6 : List Int) (x26z : Bool) (x26 : List Int) (x27 : Int) (x28 : Int), rounds Try.prog spec_Sha.Cs (finish Try.prog [] Try.f84 [.v (.nums 5 .u8 a0z a0)]) 100000 k spec_Sha.K1 (spec_Sha.N1 x6 x26z x26 x27 x28) = (spec_Sha.l1 k x6 x26z x26 x27 x28).map spec_Sha.enc)
  | 0 => ⟨fun _ _ _ _ _ => rfl, fun _ _ _ _ _ => rfl⟩
  | k + 1 => by
    have ih := spec_Sha.rounds_eq a0z a0 k
    refine ⟨fun _ _ _ _ _ => ?_, fun _ _ _ _ _ => ?_⟩
    · refine (spec_Sha.s0 k _ a0z a0 _ _ _ _ _).trans (Eq.trans ?_ (spec_Sha.l0b_nat spec_Sha.enc some (spec_Sha.l0 k) (spec_Sha.l1 k) k _ _ _ _ _))
      simp only [ih.1, ih.2, Option.map_some]
    · refine (spec_Sha.s1 k _ a0z a0 _ _ _ _ _).trans (Eq.trans ?_ (spec_Sha.l1b_nat spec_Sha.enc some (spec_Sha.l0 k) (spec_Sha.l1 k) k _ _ _ _ _))
      simp only [ih.1, ih.2, Option.map_some]
theorem spec_Sha.eq (k : Nat) (a0z : Bool) (a0 : List Int) : answer Try.prog spec_Sha.Cs 100000 spec_Sha.cuts [] Try.f84 (k + 1) [.v (.nums 5 .u8 a0z a0)] = (spec_Sha.f (k + 1) a0z a0).map spec_Sha.enc := by
  have ih := spec_Sha.rounds_eq a0z a0 k
  refine (spec_Sha.s k a0z a0).trans (Eq.trans ?_ (spec_Sha.b_nat spec_Sha.enc some (spec_Sha.l0 k) (spec_Sha.l1 k) k a0z a0))
  simp only [ih.1, ih.2, Option.map_some]
theorem spec_Sha.sound (k : Nat) : SoundF Try.prog 84 (fun a => (spec_Sha.ans k a).val) := by
  refine sound_plain (fun args res h => ?_) (fun t n => rfl)
  unfold spec_Sha.ans at h
  dsimp only at h
  split at h
  · cases k with
    | zero => cases h
    | succ k =>
      unfold Ans.val at h
      rw [← spec_Sha.eq] at h
      exact answer_sound mixed Try.func84 _ _ _ (k + 1) (fun j _ => tab_sound (tab_cons (spec_ShaInit.sound j) (tab_cons (spec_ShaPad.sound j) (tab_cons (spec_ShaBlock.sound j) (tab_nil))))) _ _ h
  · exact (Ans.no_val h).elim

/-! loop.example/g00790/spec.MacKey -/
def spec_MacKey.b {R : Type} (ret : Bool × List Int → Option R) (j0 : Bool → (List Int) → Option R) (k : Nat) (a0z : Bool) (a0 : List Int) : Option R :=
  (spec_l01Copy.f k a0z a0).bind fun t0 => cond (decide (((t0.2).length : Int) > 64)) ((spec_Sha.f k t0.1 t0.2).bind fun t1 => j0 t1.1 t1.2) (j0 t0.1 t0.2)
def spec_MacKey.l0b {R : Type} (ret : Bool × List Int → Option R) (j0 : Bool → (List Int) → Option R) (k : Nat) (x3z : Bool) (x3 : List Int) : Option R :=
  cond (decide (((x3).length : Int) < 64)) (cond (decide ((x3).length + 1 < 140737488355328)) (j0 false (x3 ++ ([0] : List Int))) (none)) (ret (x3z, x3))
def spec_MacKey.l0 : Nat → Bool → (List Int) → Option (Bool × List Int)
  | 0, _, _ => none
  | k + 1, x3z, x3 => spec_MacKey.l0b some (spec_MacKey.l0 k) k x3z x3
def spec_MacKey.f : Nat → Bool → (List Int) → Option (Bool × List Int)
  | 0, _, _ => none
  | k + 1, a0z, a0 => spec_MacKey.b some (spec_MacKey.l0 k) k a0z a0
def spec_MacKey.enc (r : Bool × List Int) : Res := ⟨[.vals false [((.nums 5 .u8 r.1 r.2), true)]], []⟩
def spec_MacKey.ans (k : Nat) : List Arg → Ans
  | [.v (.nums 5 .u8 a0z a0)] => ⟨spec_MacKey.f k a0z a0, spec_MacKey.enc⟩
  | _ => Ans.no
def spec_MacKey.Cs (k : Nat) : CallSem := tab [(59, spec_l01Copy.ans k), (84, spec_Sha.ans k)]
def spec_MacKey.cuts : List (Nat × Keep) := [(60, ⟨[(3, none)], []⟩)]
noncomputable def spec_MacKey.K0 : List Fr := framesAt [true, true, true, false, false] (bodyOf Try.f83 spec_MacKey.cuts) []
def spec_MacKey.N0 (x3z : Bool) (x3 : List Int) : St := stOf 18 18 1 [(3, .val ⟨(.nums 5 .u8 x3z x3), [.l 3 0], true, some (.l 3 0)⟩)] []
theorem spec_MacKey.s (k : Nat) (a0z : Bool) (a0 : List Int) : answer Try.prog spec_MacKey.Cs 100000 spec_MacKey.cuts [] Try.f83 (k + 1) [.v (.nums 5 .u8 a0z a0)] = spec_MacKey.b (fun r => some (spec_MacKey.enc r)) (fun x3z x3 => rounds Try.prog spec_MacKey.Cs (finish Try.prog [] Try.f83 [.v (.nums 5 .u8 a0z a0)]) 100000 k spec_MacKey.K0 (spec_MacKey.N0 x3z x3)) k a0z a0 := by kernel_rfl
theorem spec_MacKey.s0 (k : Nat) (G : List Fr → St → Option Res) (a0z : Bool) (a0 : List Int) (yx3z : Bool) (yx3 : List Int) : resume Try.prog (spec_MacKey.Cs k) G (finish Try.prog [] Try.f83 [.v (.nums 5 .u8 a0z a0)]) 100000 spec_MacKey.K0 (spec_MacKey.N0 yx3z yx3) = spec_MacKey.l0b (fun r => some (spec_MacKey.enc r)) (fun x3z x3 => G spec_MacKey.K0 (spec_MacKey.N0 x3z x3)) k yx3z yx3 := by kernel_rfl
theorem spec_MacKey.b_nat {R R' : Type} (e : R → R') (ret : Bool × List Int → Option R) (j0 : Bool → (List Int) → Option R) (k : Nat) (a0z : Bool) (a0 : List Int) : spec_MacKey.b (fun r => (ret r).map e) (fun x3z x3 => (j0 x3z x3).map e) k a0z a0 = (spec_MacKey.b ret j0 k a0z a0).map e := by
  unfold spec_MacKey.b
  repeat' first | with_reducible refine nat_cond ?_ ?_ | with_reducible refine nat_bind fun _ => ?_ | rfl
theorem spec_MacKey.l0b_nat {R R' : Type} (e : R → R') (ret : Bool × List Int → Option R) (j0 : Bool → (List Int) → Option R) (k : Nat) (x3z : Bool) (x3 : List Int) : spec_MacKey.l0b (fun r => (ret r).map e) (fun x3z x3 => (j0 x3z x3).map e) k x3z x3 = (spec_MacKey.l0b ret j0 k x3z x3).map e := by
  unfold spec_MacKey.l0b
  repeat' first | with_reducible refine nat_cond ?_ ?_ | with_reducible refine nat_bind fun _ => ?_ | rfl
theorem spec_MacKey.rounds_eq (a0z : Bool) (a0 : List Int) : ∀ k, (∀ (x3z : Bool) (x3 : List Int), rounds Try.prog spec_MacKey.Cs (finish Try.prog [] Try.f83 [.v (.nums 5 .u8 a0z a0)]) 100000 k spec_MacKey.K0 (spec_MacKey.N0 x3z x3) = (spec_MacKey.l0 k x3z x3).map spec_MacKey.enc)
  | 0 => fun _ _ => rfl
  | k + 1 => by
    have ih := spec_MacKey.rounds_eq a0z a0 k
    refine fun _ _ => ?_
    · refine (spec_MacKey.s0 k _ a0z a0 _ _).trans (Eq.trans ?_ (spec_MacKey.l0b_nat spec_MacKey.enc some (spec_MacKey.l0 k) k _ _))
      simp only [ih, Option.map_some]
theorem spec_MacKey.eq (k : Nat) (a0z : Bool) (a0 : List Int) : answer Try.prog spec_MacKey.Cs 100000 spec_MacKey.cuts [] Try.f83 (k + 1) [.v (.nums 5 .u8 a0z a0)] = (spec_MacKey.f (k + 1) a0z a0).map spec_MacKey.enc := by
  have ih := spec_MacKey.rounds_eq a0z a0 k
  refine (spec_MacKey.s k a0z a0).trans (Eq.trans ?_ (spec_MacKey.b_nat spec_MacKey.enc some (spec_MacKey.l0 k) k a0z a0))
  simp only [ih, Option.map_some]
theorem spec_MacKey.sound (k : Nat) : SoundF Try.prog 83 (fun a => (spec_MacKey.ans k a).val) := by
  refine sound_plain (fun args res h => ?_) (fun t n => rfl)
  unfold spec_MacKey.ans at h
  dsimp only at h
  split at h
  · cases k with
    | zero => cases h
    | succ k =>
      unfold Ans.val at h
      rw [← spec_MacKey.eq] at h
      exact answer_sound mixed Try.func83 _ _ _ (k + 1) (fun j _ => tab_sound (tab_cons (spec_l01Copy.sound j) (tab_cons (spec_Sha.sound j) (tab_nil)))) _ _ h
  · exact (Ans.no_val h).elim

/-! loop.example/g00790/spec.Mac -/
def spec_Mac.b {R : Type} (ret : Bool × List Int → Option R) (j0 : Bool → (List Int) → (List Int) → (List Int) → Bool → (List Int) → Int → Int → Option R) (k : Nat) (a0z : Bool) (a0 : List Int) (a1z : Bool) (a1 : List Int) : Option R :=
  (spec_MacKey.f k a0z a0).bind fun t0 => j0 a1z a1 ([] : List Int) ([] : List Int) t0.1 t0.2 ((t0.2).length : Int) 0
def spec_Mac.l0b {R : Type} (ret : Bool × List Int → Option R) (j0 : Bool → (List Int) → (List Int) → (List Int) → Bool → (List Int) → Int → Int → Option R) (k : Nat) (x1z : Bool) (x1 : List Int) (x5 : List Int) (x6 : List Int) (x12z : Bool) (x12 : List Int) (x13 : Int) (x14 : Int) : Option R :=
  cond (decide (x14 < x13)) (cond (decide ((0 : Int) ≤ x14)) (cond (decide (x14 < ((x12).length : Int))) (cond (decide ((x5).length + 1 < 140737488355328)) (cond (decide ((x6).length + 1 < 140737488355328)) (j0 x1z x1 (x5 ++ ([(Go.bits .xor .u8 (rdI x12 x14) 54)] : List Int)) (x6 ++ ([(Go.bits .xor .u8 (rdI x12 x14) 92)] : List Int)) x12z x12 x13 (RowKit.wrap64 (x14 + 1))) (none)) (none)) (none)) (none)) (cond (decide ((x5).length + (x1).length < 140737488355328)) ((spec_Sha.f k ((x1).isEmpty && false) (x5 ++ x1)).bind fun t0 => cond (decide ((x6).length + (t0.2).length < 140737488355328)) ((spec_Sha.f k ((t0.2).isEmpty && false) (x6 ++ t0.2)).bind fun t1 => ret (t1.1, t1.2)) (none)) (none))
def spec_Mac.l0 : Nat → Bool → (List Int) → (List Int) → (List Int) → Bool → (List Int) → Int → Int → Option (Bool × List Int)
  | 0, _, _, _, _, _, _, _, _ => none
  | k + 1, x1z, x1, x5, x6, x12z, x12, x13, x14 => spec_Mac.l0b some (spec_Mac.l0 k) k x1z x1 x5 x6 x12z x12 x13 x14
def spec_Mac.f : Nat → Bool → (List Int) → Bool → (List Int) → Option (Bool × List Int)
  | 0, _, _, _, _ => none
  | k + 1, a0z, a0, a1z, a1 => spec_Mac.b some (spec_Mac.l0 k) k a0z a0 a1z a1
def spec_Mac.enc (r : Bool × List Int) : Res := ⟨[.vals false [((.nums 5 .u8 r.1 r.2), true)]], []⟩
def spec_Mac.ans (k : Nat) : List Arg → Ans
  | [.v (.nums 5 .u8 a0z a0), .v (.nums 5 .u8 a1z a1)] => ⟨spec_Mac.f k a0z a0 a1z a1, spec_Mac.enc⟩
  | _ => Ans.no
def spec_Mac.Cs (k : Nat) : CallSem := tab [(83, spec_MacKey.ans k), (84, spec_Sha.ans k)]
def spec_Mac.cuts : List (Nat × Keep) := [(122, ⟨[(1, some []), (5, none), (6, none), (12, none), (13, some []), (14, some [])], []⟩)]
noncomputable def spec_Mac.K0 : List Fr := framesAt [true, true, true, false, true, false] (bodyOf Try.f60 spec_Mac.cuts) []
def spec_Mac.N0 (x1z : Bool) (x1 : List Int) (x5 : List Int) (x6 : List Int) (x12z : Bool) (x12 : List Int) (x13 : Int) (x14 : Int) : St := stOf 36 36 2 [(1, .val ⟨(.nums 5 .u8 x1z x1), [], false, none⟩), (5, .val ⟨(.nums 5 .u8 false x5), [.l 5 0], true, some (.l 5 0)⟩), (6, .val ⟨(.nums 5 .u8 false x6), [.l 6 0], true, some (.l 6 0)⟩), (12, .val ⟨(.nums 5 .u8 x12z x12), [.l 12 0], true, some (.l 12 0)⟩), (13, .val (V.s (.int .i64 x13))), (14, .val (V.s (.int .i64 x14)))] []
theorem spec_Mac.s (k : Nat) (a0z : Bool) (a0 : List Int) (a1z : Bool) (a1 : List Int) : answer Try.prog spec_Mac.Cs 100000 spec_Mac.cuts [] Try.f60 (k + 1) [.v (.nums 5 .u8 a0z a0), .v (.nums 5 .u8 a1z a1)] = spec_Mac.b (fun r => some (spec_Mac.enc r)) (fun x1z x1 x5 x6 x12z x12 x13 x14 => rounds Try.prog spec_Mac.Cs (finish Try.prog [] Try.f60 [.v (.nums 5 .u8 a0z a0), .v (.nums 5 .u8 a1z a1)]) 100000 k spec_Mac.K0 (spec_Mac.N0 x1z x1 x5 x6 x12z x12 x13 x14)) k a0z a0 a1z a1 := by kernel_rfl
theorem spec_Mac.s0 (k : Nat) (G : List Fr → St → Option Res) (a0z : Bool) (a0 : List Int) (a1z : Bool) (a1 : List Int) (yx1z : Bool) (yx1 : List Int) (yx5 : List Int) (yx6 : List Int) (yx12z : Bool) (yx12 : List Int) (yx13 : Int) (yx14 : Int) : resume Try.prog (spec_Mac.Cs k) G (finish Try.prog [] Try.f60 [.v (.nums 5 .u8 a0z a0), .v (.nums 5 .u8 a1z a1)]) 100000 spec_Mac.K0 (spec_Mac.N0 yx1z yx1 yx5 yx6 yx12z yx12 yx13 yx14) = spec_Mac.l0b (fun r => some (spec_Mac.enc r)) (fun x1z x1 x5 x6 x12z x12 x13 x14 => G spec_Mac.K0 (spec_Mac.N0 x1z x1 x5 x6 x12z x12 x13 x14)) k yx1z yx1 yx5 yx6 yx12z yx12 yx13 yx14 := by kernel_rfl
theorem spec_Mac.b_nat {R R' : Type} (e : R → R') (ret : Bool × List Int → Option R) (j0 : Bool → (List Int) → (List Int) → (List Int) → Bool → (List Int) → Int → Int → Option R) (k : Nat) (a0z : Bool) (a0 : List Int) (a1z : Bool) (a1 : List Int) : spec_Mac.b (fun r => (ret r).map e) (fun x1z x1 x5 x6 x12z x12 x13 x14 => (j0 x1z x1 x5 x6 x12z x12 x13 x14).map e) k a0z a0 a1z a1 = (spec_Mac.b ret j0 k a0z a0 a1z a1).map e := by
  unfold spec_Mac.b
  repeat' first | with_reducible refine nat_cond ?_ ?_ | with_reducible refine nat_bind fun _ => ?_ | rfl
theorem spec_Mac.l0b_nat {R R' : Type} (e : R → R') (ret : Bool × List Int → Option R) (j0 : Bool → (List Int) → (List Int) → (List Int) → Bool → (List Int) → Int → Int → Option R) (k : Nat) (x1z : Bool) (x1 : List Int) (x5 : List Int) (x6 : List Int) (x12z : Bool) (x12 : List Int) (x13 : Int) (x14 : Int) : spec_Mac.l0b (fun r => (ret r).map e) (fun x1z x1 x5 x6 x12z x12 x13 x14 => (j0 x1z x1 x5 x6 x12z x12 x13 x14).map e) k x1z x1 x5 x6 x12z x12 x13 x14 = (spec_Mac.l0b ret j0 k x1z x1 x5 x6 x12z x12 x13 x14).map e := by
  unfold spec_Mac.l0b
  repeat' first | with_reducible refine nat_cond ?_ ?_ | with_reducible refine nat_bind fun _ => ?_ | rfl
theorem spec_Mac.rounds_eq (a0z : Bool) (a0 : List Int) (a1z : Bool) (a1 : List Int) : ∀ k, (∀ (x1z : Bool) (x1 : List Int) (x5 : List Int) (x6 : List Int) (x12z : Bool) (x12 : List Int) (x13 : Int) (x14 : Int), rounds Try.prog spec_Mac.Cs (finish Try.prog [] Try.f60 [.v (.nums 5 .u8 a0z a0), .v (.nums 5 .u8 a1z a1)]) 100000 k spec_Mac.K0 (spec_Mac.N0 x1z x1 x5 x6 x12z x12 x13 x14) = (spec_Mac.l0 k x1z x1 x5 x6 x12z x12 x13 x14).map spec_Mac.enc)
  | 0 => fun _ _ _ _ _ _ _ _ => rfl
  | k + 1 => by
    have ih := spec_Mac.rounds_eq a0z a0 a1z a1 k
    refine fun _ _ _ _ _ _ _ _ => ?_
    · refine (spec_Mac.s0 k _ a0z a0 a1z a1 _ _ _ _ _ _ _ _).trans (Eq.trans ?_ (spec_Mac.l0b_nat spec_Mac.enc some (spec_Mac.l0 k) k _ _ _ _ _ _ _ _))
      simp only [ih, Option.map_some]
theorem spec_Mac.eq (k : Nat) (a0z : Bool) (a0 : List Int) (a1z : Bool) (a1 : List Int) : answer Try.prog spec_Mac.Cs 100000 spec_Mac.cuts [] Try.f60 (k + 1) [.v (.nums 5 .u8 a0z a0), .v (.nums 5 .u8 a1z a1)] = (spec_Mac.f (k + 1) a0z a0 a1z a1).map spec_Mac.enc := by
  have ih := spec_Mac.rounds_eq a0z a0 a1z a1 k
  refine (spec_Mac.s k a0z a0 a1z a1).trans (Eq.trans ?_ (spec_Mac.b_nat spec_Mac.enc some (spec_Mac.l0 k) k a0z a0 a1z a1))
  simp only [ih, Option.map_some]
theorem spec_Mac.sound (k : Nat) : SoundF Try.prog 60 (fun a => (spec_Mac.ans k a).val) := by
  refine sound_plain (fun args res h => ?_) (fun t n => rfl)
  unfold spec_Mac.ans at h
  dsimp only at h
  split at h
  · cases k with
    | zero => cases h
    | succ k =>
      unfold Ans.val at h
      rw [← spec_Mac.eq] at h
      exact answer_sound mixed Try.func60 _ _ _ (k + 1) (fun j _ => tab_sound (tab_cons (spec_MacKey.sound j) (tab_cons (spec_Sha.sound j) (tab_nil)))) _ _ h
  · exact (Ans.no_val h).elim

/-! loop.example/g00790/spec.SignVote -/
def spec_SignVote.b {R : Type} (ret : Int × Int × Bool × (List Int) × Int × Bool × (List Int) × Bool → Option R) (k : Nat) (a0_0z : Bool) (a0_0 : List T) (a1 : Int) (a2 : Int) (a3z : Bool) (a3 : List Int) (a4 : Int) : Option R :=
  (spec_VoteBytes.f k a1 a2 a3z a3).bind fun t0 => (spec_TableOk.f k a0_0z a0_0).bind fun t1 => cond (!t1) (ret (0, 0, true, ([] : List Int), 0, true, ([] : List Int), false)) (cond (decide (((t0.2).length : Int) = 0)) (ret (0, 0, true, ([] : List Int), 0, true, ([] : List Int), false)) ((spec_l01In.f k a4 0 (RowKit.wrap64 (((a0_0).length : Int) - 1))).bind fun t2 => cond (!t2) (ret (0, 0, true, ([] : List Int), 0, true, ([] : List Int), false)) ((spec_l01Copy.f k a3z a3).bind fun t3 => cond (decide ((0 : Int) ≤ a4)) (cond (decide (a4 < ((a0_0).length : Int))) ((spec_Mac.f k (((((a0_0).getD (a4).toNat .bad).cells.getD 1 .bad)).isNil) (((((a0_0).getD (a4).toNat .bad).cells.getD 1 .bad)).toNums) t0.1 t0.2).bind fun t4 => ret (a1, a2, t3.1, t3.2, a4, t4.1, t4.2, true)) (none)) (none))))
def spec_SignVote.f : Nat → Bool → (List T) → Int → Int → Bool → (List Int) → Int → Option (Int × Int × Bool × (List Int) × Int × Bool × (List Int) × Bool)
  | 0, _, _, _, _, _, _, _ => none
  | k + 1, a0_0z, a0_0, a1, a2, a3z, a3, a4 => spec_SignVote.b some k a0_0z a0_0 a1 a2 a3z a3 a4
def spec_SignVote.enc (r : Int × Int × Bool × (List Int) × Int × Bool × (List Int) × Bool) : Res := ⟨[.vals true [((.int .i64 r.1), true), ((.int .i64 r.2.1), true), ((.nums 5 .u8 r.2.2.1 r.2.2.2.1), true), ((.int .i64 r.2.2.2.2.1), true), ((.nums 5 .u8 r.2.2.2.2.2.1 r.2.2.2.2.2.2.1), true)], .vals false [((.bool r.2.2.2.2.2.2.2), true)]], []⟩
def spec_SignVote.ans (k : Nat) : List Arg → Ans
  | [.v (.agg [(.sl 82 a0_0z a0_0)]), .v (.int .i64 a1), .v (.int .i64 a2), .v (.nums 5 .u8 a3z a3), .v (.int .i64 a4)] => ⟨spec_SignVote.f k a0_0z a0_0 a1 a2 a3z a3 a4, spec_SignVote.enc⟩
  | _ => Ans.no
def spec_SignVote.Cs (k : Nat) : CallSem := tab [(56, spec_VoteBytes.ans k), (58, spec_l01In.ans k), (59, spec_l01Copy.ans k), (57, spec_TableOk.ans k), (60, spec_Mac.ans k)]
def spec_SignVote.cuts : List (Nat × Keep) := []
theorem spec_SignVote.s (k : Nat) (a0_0z : Bool) (a0_0 : List T) (a1 : Int) (a2 : Int) (a3z : Bool) (a3 : List Int) (a4 : Int) : answer Try.prog spec_SignVote.Cs 100000 spec_SignVote.cuts [] Try.f39 (k + 1) [.v (.agg [(.sl 82 a0_0z a0_0)]), .v (.int .i64 a1), .v (.int .i64 a2), .v (.nums 5 .u8 a3z a3), .v (.int .i64 a4)] = spec_SignVote.b (fun r => some (spec_SignVote.enc r)) k a0_0z a0_0 a1 a2 a3z a3 a4 := by kernel_rfl
theorem spec_SignVote.b_nat {R R' : Type} (e : R → R') (ret : Int × Int × Bool × (List Int) × Int × Bool × (List Int) × Bool → Option R) (k : Nat) (a0_0z : Bool) (a0_0 : List T) (a1 : Int) (a2 : Int) (a3z : Bool) (a3 : List Int) (a4 : Int) : spec_SignVote.b (fun r => (ret r).map e) k a0_0z a0_0 a1 a2 a3z a3 a4 = (spec_SignVote.b ret k a0_0z a0_0 a1 a2 a3z a3 a4).map e := by
  unfold spec_SignVote.b
  repeat' first | with_reducible refine nat_cond ?_ ?_ | with_reducible refine nat_bind fun _ => ?_ | rfl
theorem spec_SignVote.eq (k : Nat) (a0_0z : Bool) (a0_0 : List T) (a1 : Int) (a2 : Int) (a3z : Bool) (a3 : List Int) (a4 : Int) : answer Try.prog spec_SignVote.Cs 100000 spec_SignVote.cuts [] Try.f39 (k + 1) [.v (.agg [(.sl 82 a0_0z a0_0)]), .v (.int .i64 a1), .v (.int .i64 a2), .v (.nums 5 .u8 a3z a3), .v (.int .i64 a4)] = (spec_SignVote.f (k + 1) a0_0z a0_0 a1 a2 a3z a3 a4).map spec_SignVote.enc := by
  refine (spec_SignVote.s k a0_0z a0_0 a1 a2 a3z a3 a4).trans (Eq.trans ?_ (spec_SignVote.b_nat spec_SignVote.enc some k a0_0z a0_0 a1 a2 a3z a3 a4))
  simp only [Option.map_some]
theorem spec_SignVote.sound (k : Nat) : SoundF Try.prog 39 (fun a => (spec_SignVote.ans k a).val) := by
  refine sound_plain (fun args res h => ?_) (fun t n => rfl)
  unfold spec_SignVote.ans at h
  dsimp only at h
  split at h
  · cases k with
    | zero => cases h
    | succ k =>
      unfold Ans.val at h
      rw [← spec_SignVote.eq] at h
      exact answer_sound mixed Try.func39 _ _ _ (k + 1) (fun j _ => tab_sound (tab_cons (spec_VoteBytes.sound j) (tab_cons (spec_l01In.sound j) (tab_cons (spec_l01Copy.sound j) (tab_cons (spec_TableOk.sound j) (tab_cons (spec_Mac.sound j) (tab_nil))))))) _ _ h
  · exact (Ans.no_val h).elim

/-! loop.example/g00790/spec.l01Once -/
def spec_l01Once.b {R : Type} (ret : Bool × Bool × (List Int) × Int × Int → Option R) (k : Nat) (a0_0z : Bool) (a0_0 : List Int) (a0_1 : Int) (a0_2 : Int) (a1 : Int) : Option R :=
  (spec_l01Below.f k a0_0z a0_0 a0_1 a0_2 a1).bind fun t0 => ret (decide (t0.1 = 0), t0.2.1, t0.2.2.1, t0.2.2.2.1, t0.2.2.2.2)
def spec_l01Once.f : Nat → Bool → (List Int) → Int → Int → Int → Option (Bool × Bool × (List Int) × Int × Int)
  | 0, _, _, _, _, _ => none
  | k + 1, a0_0z, a0_0, a0_1, a0_2, a1 => spec_l01Once.b some k a0_0z a0_0 a0_1 a0_2 a1
def spec_l01Once.enc (r : Bool × Bool × (List Int) × Int × Int) : Res := ⟨[.vals false [((.bool r.1), true)]], [[((.nums 5 .u8 r.2.1 r.2.2.1), false), ((.int .i64 r.2.2.2.1), true), ((.int .i64 r.2.2.2.2), true)]]⟩
def spec_l01Once.ans (k : Nat) : List Arg → Ans
  | [.box [((.nums 5 .u8 a0_0z a0_0), false), ((.int .i64 a0_1), false), ((.int .i64 a0_2), false)], .v (.int .i64 a1)] => ⟨spec_l01Once.f k a0_0z a0_0 a0_1 a0_2 a1, spec_l01Once.enc⟩
  | _ => Ans.no
def spec_l01Once.Cs (k : Nat) : CallSem := tab [(37, spec_l01Below.ans k)]
def spec_l01Once.cuts : List (Nat × Keep) := []
theorem spec_l01Once.s (k : Nat) (a0_0z : Bool) (a0_0 : List Int) (a0_1 : Int) (a0_2 : Int) (a1 : Int) : answer Try.prog spec_l01Once.Cs 100000 spec_l01Once.cuts [true, false, true, true] Try.f40 (k + 1) [.box [((.nums 5 .u8 a0_0z a0_0), false), ((.int .i64 a0_1), false), ((.int .i64 a0_2), false)], .v (.int .i64 a1)] = spec_l01Once.b (fun r => some (spec_l01Once.enc r)) k a0_0z a0_0 a0_1 a0_2 a1 := by kernel_rfl
theorem spec_l01Once.b_nat {R R' : Type} (e : R → R') (ret : Bool × Bool × (List Int) × Int × Int → Option R) (k : Nat) (a0_0z : Bool) (a0_0 : List Int) (a0_1 : Int) (a0_2 : Int) (a1 : Int) : spec_l01Once.b (fun r => (ret r).map e) k a0_0z a0_0 a0_1 a0_2 a1 = (spec_l01Once.b ret k a0_0z a0_0 a0_1 a0_2 a1).map e := by
  unfold spec_l01Once.b
  repeat' first | with_reducible refine nat_cond ?_ ?_ | with_reducible refine nat_bind fun _ => ?_ | rfl
theorem spec_l01Once.eq (k : Nat) (a0_0z : Bool) (a0_0 : List Int) (a0_1 : Int) (a0_2 : Int) (a1 : Int) : answer Try.prog spec_l01Once.Cs 100000 spec_l01Once.cuts [true, false, true, true] Try.f40 (k + 1) [.box [((.nums 5 .u8 a0_0z a0_0), false), ((.int .i64 a0_1), false), ((.int .i64 a0_2), false)], .v (.int .i64 a1)] = (spec_l01Once.f (k + 1) a0_0z a0_0 a0_1 a0_2 a1).map spec_l01Once.enc := by
  refine (spec_l01Once.s k a0_0z a0_0 a0_1 a0_2 a1).trans (Eq.trans ?_ (spec_l01Once.b_nat spec_l01Once.enc some k a0_0z a0_0 a0_1 a0_2 a1))
  simp only [Option.map_some]
theorem spec_l01Once.sound (k : Nat) : SoundF Try.prog 40 (fun a => (spec_l01Once.ans k a).val) := by
  refine sound_plain (fun args res h => ?_) (fun t n => rfl)
  unfold spec_l01Once.ans at h
  dsimp only at h
  split at h
  · cases k with
    | zero => cases h
    | succ k =>
      unfold Ans.val at h
      rw [← spec_l01Once.eq] at h
      exact answer_sound mixed Try.func40 _ _ _ (k + 1) (fun j _ => tab_sound (tab_cons (spec_l01Below.sound j) (tab_nil))) _ _ h
  · exact (Ans.no_val h).elim

/-! loop.example/g00790/spec.l01Near -/
def spec_l01Near.b {R : Type} (ret : Int × Bool × (List Int) × Int × Int → Option R) (k : Nat) (a0_0z : Bool) (a0_0 : List Int) (a0_1 : Int) (a0_2 : Int) (a1 : Int) (a2 : Int) : Option R :=
  (spec_l01Below.f k a0_0z a0_0 a0_1 a0_2 12).bind fun t0 => cond (decide (t0.1 = 0)) (ret (a1, t0.2.1, t0.2.2.1, t0.2.2.2.1, t0.2.2.2.2)) (cond (decide (t0.1 = 1)) (ret (a2, t0.2.1, t0.2.2.1, t0.2.2.2.1, t0.2.2.2.2)) (cond (decide (t0.1 = 2)) (ret ((RowKit.wrap64 (a1 - 1)), t0.2.1, t0.2.2.1, t0.2.2.2.1, t0.2.2.2.2)) (cond (decide (t0.1 = 3)) (ret ((RowKit.wrap64 (a2 + 1)), t0.2.1, t0.2.2.1, t0.2.2.2.1, t0.2.2.2.2)) (cond (decide (t0.1 = 4)) ((spec_l01Pick.f k t0.2.1 t0.2.2.1 t0.2.2.2.1 t0.2.2.2.2 false ([9223372036854775807, (-9223372036854775808), (-1), 0, 1152921504606846975, 1152921504606846976] : List Int)).bind fun t1 => ret (t1.1, t1.2.1, t1.2.2.1, t1.2.2.2.1, t1.2.2.2.2)) (cond (decide ((RowKit.wrap64 (a2 - a1)) > 60000)) ((spec_l01Below.f k t0.2.1 t0.2.2.1 t0.2.2.2.1 t0.2.2.2.2 60000).bind fun t1 => ret ((RowKit.wrap64 (a1 + t1.1)), t1.2.1, t1.2.2.1, t1.2.2.2.1, t1.2.2.2.2)) ((spec_l01Below.f k t0.2.1 t0.2.2.1 t0.2.2.2.1 t0.2.2.2.2 (RowKit.wrap64 ((RowKit.wrap64 (a2 - a1)) + 1))).bind fun t1 => ret ((RowKit.wrap64 (a1 + t1.1)), t1.2.1, t1.2.2.1, t1.2.2.2.1, t1.2.2.2.2)))))))
def spec_l01Near.f : Nat → Bool → (List Int) → Int → Int → Int → Int → Option (Int × Bool × (List Int) × Int × Int)
  | 0, _, _, _, _, _, _ => none
  | k + 1, a0_0z, a0_0, a0_1, a0_2, a1, a2 => spec_l01Near.b some k a0_0z a0_0 a0_1 a0_2 a1 a2
def spec_l01Near.enc (r : Int × Bool × (List Int) × Int × Int) : Res := ⟨[.vals false [((.int .i64 r.1), true)]], [[((.nums 5 .u8 r.2.1 r.2.2.1), false), ((.int .i64 r.2.2.2.1), true), ((.int .i64 r.2.2.2.2), true)]]⟩
def spec_l01Near.ans (k : Nat) : List Arg → Ans
  | [.box [((.nums 5 .u8 a0_0z a0_0), false), ((.int .i64 a0_1), false), ((.int .i64 a0_2), false)], .v (.int .i64 a1), .v (.int .i64 a2)] => ⟨spec_l01Near.f k a0_0z a0_0 a0_1 a0_2 a1 a2, spec_l01Near.enc⟩
  | _ => Ans.no
def spec_l01Near.Cs (k : Nat) : CallSem := tab [(54, spec_l01Pick.ans k), (37, spec_l01Below.ans k)]
def spec_l01Near.cuts : List (Nat × Keep) := []
theorem spec_l01Near.s (k : Nat) (a0_0z : Bool) (a0_0 : List Int) (a0_1 : Int) (a0_2 : Int) (a1 : Int) (a2 : Int) : answer Try.prog spec_l01Near.Cs 100000 spec_l01Near.cuts [true, false, true, true] Try.f41 (k + 1) [.box [((.nums 5 .u8 a0_0z a0_0), false), ((.int .i64 a0_1), false), ((.int .i64 a0_2), false)], .v (.int .i64 a1), .v (.int .i64 a2)] = spec_l01Near.b (fun r => some (spec_l01Near.enc r)) k a0_0z a0_0 a0_1 a0_2 a1 a2 := by kernel_rfl
theorem spec_l01Near.b_nat {R R' : Type} (e : R → R') (ret : Int × Bool × (List Int) × Int × Int → Option R) (k : Nat) (a0_0z : Bool) (a0_0 : List Int) (a0_1 : Int) (a0_2 : Int) (a1 : Int) (a2 : Int) : spec_l01Near.b (fun r => (ret r).map e) k a0_0z a0_0 a0_1 a0_2 a1 a2 = (spec_l01Near.b ret k a0_0z a0_0 a0_1 a0_2 a1 a2).map e := by
  unfold spec_l01Near.b
  repeat' first | with_reducible refine nat_cond ?_ ?_ | with_reducible refine nat_bind fun _ => ?_ | rfl
theorem spec_l01Near.eq (k : Nat) (a0_0z : Bool) (a0_0 : List Int) (a0_1 : Int) (a0_2 : Int) (a1 : Int) (a2 : Int) : answer Try.prog spec_l01Near.Cs 100000 spec_l01Near.cuts [true, false, true, true] Try.f41 (k + 1) [.box [((.nums 5 .u8 a0_0z a0_0), false), ((.int .i64 a0_1), false), ((.int .i64 a0_2), false)], .v (.int .i64 a1), .v (.int .i64 a2)] = (spec_l01Near.f (k + 1) a0_0z a0_0 a0_1 a0_2 a1 a2).map spec_l01Near.enc := by
  refine (spec_l01Near.s k a0_0z a0_0 a0_1 a0_2 a1 a2).trans (Eq.trans ?_ (spec_l01Near.b_nat spec_l01Near.enc some k a0_0z a0_0 a0_1 a0_2 a1 a2))
  simp only [Option.map_some]
theorem spec_l01Near.sound (k : Nat) : SoundF Try.prog 41 (fun a => (spec_l01Near.ans k a).val) := by
  refine sound_plain (fun args res h => ?_) (fun t n => rfl)
  unfold spec_l01Near.ans at h
  dsimp only at h
  split at h
  · cases k with
    | zero => cases h
    | succ k =>
      unfold Ans.val at h
      rw [← spec_l01Near.eq] at h
      exact answer_sound mixed Try.func41 _ _ _ (k + 1) (fun j _ => tab_sound (tab_cons (spec_l01Pick.sound j) (tab_cons (spec_l01Below.sound j) (tab_nil)))) _ _ h
  · exact (Ans.no_val h).elim

/-! loop.example/g00790/spec.l28Votes -/
def spec_l28Votes.b {R : Type} (ret : Bool × (List T) × Bool × (List Int) × Int × Int → Option R) (j0 : (List T) → Int → Bool → (List Int) → Int → Int → Bool → (List T) → Option R) (k : Nat) (a0_0z : Bool) (a0_0 : List Int) (a0_1 : Int) (a0_2 : Int) (a1_0z : Bool) (a1_0 : List T) (a2 : Int) : Option R :=
  (spec_l01Below.f k a0_0z a0_0 a0_1 a0_2 (RowKit.wrap64 (a2 + 1))).bind fun t0 => j0 ([] : List T) t0.1 t0.2.1 t0.2.2.1 t0.2.2.2.1 t0.2.2.2.2 a1_0z a1_0
def spec_l28Votes.l0b {R : Type} (ret : Bool × (List T) × Bool × (List Int) × Int × Int → Option R) (j0 : (List T) → Int → Bool → (List Int) → Int → Int → Bool → (List T) → Option R) (k : Nat) (x7 : List T) (x8 : Int) (c0_0z : Bool) (c0_0 : List Int) (c0_1 : Int) (c0_2 : Int) (c4_0z : Bool) (c4_0 : List T) : Option R :=
  cond (decide (x8 > 0)) ((spec_l01Below.f k c0_0z c0_0 c0_1 c0_2 2).bind fun t0 => cond (decide ((0 : Int) < (((List.replicate 32 (0 : Int))).length : Int))) ((spec_l01Below.f k t0.2.1 t0.2.2.1 t0.2.2.2.1 t0.2.2.2.2 2).bind fun t1 => (spec_l01Below.f k t1.2.1 t1.2.2.1 t1.2.2.2.1 t1.2.2.2.2 ((c4_0).length : Int)).bind fun t2 => (spec_SignVote.f k c4_0z c4_0 t1.1 1 false (((List.replicate 32 (0 : Int))).set 0 ((t0.1) % 256)) t2.1).bind fun t3 => (spec_l01Once.f k t2.2.1 t2.2.2.1 t2.2.2.2.1 t2.2.2.2.2 8).bind fun t4 => cond t4.1 ((spec_l01Near.f k t4.2.1 t4.2.2.1 t4.2.2.2.1 t4.2.2.2.2 0 2).bind fun t5 => cond (decide ((x7).length + 1 < 1954687338268)) (j0 (x7 ++ ([(.agg [(.int .i64 t5.1), (.int .i64 t3.2.1), (.nums 5 .u8 t3.2.2.1 t3.2.2.2.1), (.int .i64 t3.2.2.2.2.1), (.nums 5 .u8 t3.2.2.2.2.2.1 t3.2.2.2.2.2.2.1)])] : List T)) (RowKit.wrap64 (x8 - 1)) t5.2.1 t5.2.2.1 t5.2.2.2.1 t5.2.2.2.2 c4_0z c4_0) (none)) (cond (decide ((x7).length + 1 < 1954687338268)) (j0 (x7 ++ ([(.agg [(.int .i64 t3.1), (.int .i64 t3.2.1), (.nums 5 .u8 t3.2.2.1 t3.2.2.2.1), (.int .i64 t3.2.2.2.2.1), (.nums 5 .u8 t3.2.2.2.2.2.1 t3.2.2.2.2.2.2.1)])] : List T)) (RowKit.wrap64 (x8 - 1)) t4.2.1 t4.2.2.1 t4.2.2.2.1 t4.2.2.2.2 c4_0z c4_0) (none))) (none)) (ret (false, x7, c0_0z, c0_0, c0_1, c0_2))
def spec_l28Votes.l0 : Nat → (List T) → Int → Bool → (List Int) → Int → Int → Bool → (List T) → Option (Bool × (List T) × Bool × (List Int) × Int × Int)
  | 0, _, _, _, _, _, _, _, _ => none
  | k + 1, x7, x8, c0_0z, c0_0, c0_1, c0_2, c4_0z, c4_0 => spec_l28Votes.l0b some (spec_l28Votes.l0 k) k x7 x8 c0_0z c0_0 c0_1 c0_2 c4_0z c4_0
def spec_l28Votes.f : Nat → Bool → (List Int) → Int → Int → Bool → (List T) → Int → Option (Bool × (List T) × Bool × (List Int) × Int × Int)
  | 0, _, _, _, _, _, _, _ => none
  | k + 1, a0_0z, a0_0, a0_1, a0_2, a1_0z, a1_0, a2 => spec_l28Votes.b some (spec_l28Votes.l0 k) k a0_0z a0_0 a0_1 a0_2 a1_0z a1_0 a2
def spec_l28Votes.enc (r : Bool × (List T) × Bool × (List Int) × Int × Int) : Res := ⟨[.vals false [((.sl 33 r.1 r.2.1), true)]], [[((.nums 5 .u8 r.2.2.1 r.2.2.2.1), false), ((.int .i64 r.2.2.2.2.1), true), ((.int .i64 r.2.2.2.2.2), true)]]⟩
def spec_l28Votes.ans (k : Nat) : List Arg → Ans
  | [.box [((.nums 5 .u8 a0_0z a0_0), false), ((.int .i64 a0_1), false), ((.int .i64 a0_2), false)], .v (.agg [(.sl 82 a1_0z a1_0)]), .v (.int .i64 a2)] => ⟨spec_l28Votes.f k a0_0z a0_0 a0_1 a0_2 a1_0z a1_0 a2, spec_l28Votes.enc⟩
  | _ => Ans.no
def spec_l28Votes.Cs (k : Nat) : CallSem := tab [(37, spec_l01Below.ans k), (39, spec_SignVote.ans k), (40, spec_l01Once.ans k), (41, spec_l01Near.ans k)]
def spec_l28Votes.cuts : List (Nat × Keep) := [(58, ⟨[(0, some []), (4, some []), (7, none), (8, some [])], [(0, [some [], some [], some []]), (4, [some []])]⟩)]
noncomputable def spec_l28Votes.K0 : List Fr := framesAt [true, true, false, true, false] (bodyOf Try.f21 spec_l28Votes.cuts) []
def spec_l28Votes.N0 (x7 : List T) (x8 : Int) (c0_0z : Bool) (c0_0 : List Int) (c0_1 : Int) (c0_2 : Int) (c4_0z : Bool) (c4_0 : List T) : St := stOf 50 50 3 [(0, .bp 0 0), (4, .bp 4 0), (7, .val ⟨(.sl 33 false x7), [.l 7 0], true, some (.l 7 0)⟩), (8, .val (V.s (.int .i64 x8)))] [(0, .cells [⟨(.nums 5 .u8 c0_0z c0_0), [], false, none⟩, V.s (.int .i64 c0_1), V.s (.int .i64 c0_2)]), (4, .cells [⟨(.sl 82 c4_0z c4_0), [], false, none⟩])]
theorem spec_l28Votes.s (k : Nat) (a0_0z : Bool) (a0_0 : List Int) (a0_1 : Int) (a0_2 : Int) (a1_0z : Bool) (a1_0 : List T) (a2 : Int) : answer Try.prog spec_l28Votes.Cs 100000 spec_l28Votes.cuts [true, false, true, true] Try.f21 (k + 1) [.box [((.nums 5 .u8 a0_0z a0_0), false), ((.int .i64 a0_1), false), ((.int .i64 a0_2), false)], .v (.agg [(.sl 82 a1_0z a1_0)]), .v (.int .i64 a2)] = spec_l28Votes.b (fun r => some (spec_l28Votes.enc r)) (fun x7 x8 c0_0z c0_0 c0_1 c0_2 c4_0z c4_0 => rounds Try.prog spec_l28Votes.Cs (finish Try.prog [true, false, true, true] Try.f21 [.box [((.nums 5 .u8 a0_0z a0_0), false), ((.int .i64 a0_1), false), ((.int .i64 a0_2), false)], .v (.agg [(.sl 82 a1_0z a1_0)]), .v (.int .i64 a2)]) 100000 k spec_l28Votes.K0 (spec_l28Votes.N0 x7 x8 c0_0z c0_0 c0_1 c0_2 c4_0z c4_0)) k a0_0z a0_0 a0_1 a0_2 a1_0z a1_0 a2 := by kernel_rfl
theorem spec_l28Votes.s0 (k : Nat) (G : List Fr → St → Option Res) (a0_0z : Bool) (a0_0 : List Int) (a0_1 : Int) (a0_2 : Int) (a1_0z : Bool) (a1_0 : List T) (a2 : Int) (yx7 : List T) (yx8 : Int) (yc0_0z : Bool) (yc0_0 : List Int) (yc0_1 : Int) (yc0_2 : Int) (yc4_0z : Bool) (yc4_0 : List T) : resume Try.prog (spec_l28Votes.Cs k) G (finish Try.prog [true, false, true, true] Try.f21 [.box [((.nums 5 .u8 a0_0z a0_0), false), ((.int .i64 a0_1), false), ((.int .i64 a0_2), false)], .v (.agg [(.sl 82 a1_0z a1_0)]), .v (.int .i64 a2)]) 100000 spec_l28Votes.K0 (spec_l28Votes.N0 yx7 yx8 yc0_0z yc0_0 yc0_1 yc0_2 yc4_0z yc4_0) = spec_l28Votes.l0b (fun r => some (spec_l28Votes.enc r)) (fun x7 x8 c0_0z c0_0 c0_1 c0_2 c4_0z c4_0 => G spec_l28Votes.K0 (spec_l28Votes.N0 x7 x8 c0_0z c0_0 c0_1 c0_2 c4_0z c4_0)) k yx7 yx8 yc0_0z yc0_0 yc0_1 yc0_2 yc4_0z yc4_0 := by kernel_rfl
theorem spec_l28Votes.b_nat {R R' : Type} (e : R → R') (ret : Bool × (List T) × Bool × (List Int) × Int × Int → Option R) (j0 : (List T) → Int → Bool → (List Int) → Int → Int → Bool → (List T) → Option R) (k : Nat) (a0_0z : Bool) (a0_0 : List Int) (a0_1 : Int) (a0_2 : Int) (a1_0z : Bool) (a1_0 : List T) (a2 : Int) : spec_l28Votes.b (fun r => (ret r).map e) (fun x7 x8 c0_0z c0_0 c0_1 c0_2 c4_0z c4_0 => (j0 x7 x8 c0_0z c0_0 c0_1 c0_2 c4_0z c4_0).map e) k a0_0z a0_0 a0_1 a0_2 a1_0z a1_0 a2 = (spec_l28Votes.b ret j0 k a0_0z a0_0 a0_1 a0_2 a1_0z a1_0 a2).map e := by
  unfold spec_l28Votes.b
  repeat' first | with_reducible refine nat_cond ?_ ?_ | with_reducible refine nat_bind fun _ => ?_ | rfl
theorem spec_l28Votes.l0b_nat {R R' : Type} (e : R → R') (ret : Bool × (List T) × Bool × (List Int) × Int × Int → Option R) (j0 : (List T) → Int → Bool → (List Int) → Int → Int → Bool → (List T) → Option R) (k : Nat) (x7 : List T) (x8 : Int) (c0_0z : Bool) (c0_0 : List Int) (c0_1 : Int) (c0_2 : Int) (c4_0z : Bool) (c4_0 : List T) : spec_l28Votes.l0b (fun r => (ret r).map e) (fun x7 x8 c0_0z c0_0 c0_1 c0_2 c4_0z c4_0 => (j0 x7 x8 c0_0z c0_0 c0_1 c0_2 c4_0z c4_0).map e) k x7 x8 c0_0z c0_0 c0_1 c0_2 c4_0z c4_0 = (spec_l28Votes.l0b ret j0 k x7 x8 c0_0z c0_0 c0_1 c0_2 c4_0z c4_0).map e := by
  unfold spec_l28Votes.l0b
  repeat' first | with_reducible refine nat_cond ?_ ?_ | with_reducible refine nat_bind fun _ => ?_ | rfl
theorem spec_l28Votes.rounds_eq (a0_0z : Bool) (a0_0 : List Int) (a0_1 : Int) (a0_2 : Int) (a1_0z : Bool) (a1_0 : List T) (a2 : Int) : ∀ k, (∀ (x7 : List T) (x8 : Int) (c0_0z : Bool) (c0_0 : List Int) (c0_1 : Int) (c0_2 : Int) (c4_0z : Bool) (c4_0 : List T), rounds Try.prog spec_l28Votes.Cs (finish Try.prog [true, false, true, true] Try.f21 [.box [((.nums 5 .u8 a0_0z a0_0), false), ((.int .i64 a0_1), false), ((.int .i64 a0_2), false)], .v (.agg [(.sl 82 a1_0z a1_0)]), .v (.int .i64 a2)]) 100000 k spec_l28Votes.K0 (spec_l28Votes.N0 x7 x8 c0_0z c0_0 c0_1 c0_2 c4_0z c4_0) = (spec_l28Votes.l0 k x7 x8 c0_0z c0_0 c0_1 c0_2 c4_0z c4_0).map spec_l28Votes.enc)
  | 0 => fun _ _ _ _ _ _ _ _ => rfl
  | k + 1 => by
    have ih := spec_l28Votes.rounds_eq a0_0z a0_0 a0_1 a0_2 a1_0z a1_0 a2 k
    refine fun _ _ _ _ _ _ _ _ => ?_
    · refine (spec_l28Votes.s0 k _ a0_0z a0_0 a0_1 a0_2 a1_0z a1_0 a2 _ _ _ _ _ _ _ _).trans (Eq.trans ?_ (spec_l28Votes.l0b_nat spec_l28Votes.enc some (spec_l28Votes.l0 k) k _ _ _ _ _ _ _ _))
      simp only [ih, Option.map_some]
theorem spec_l28Votes.eq (k : Nat) (a0_0z : Bool) (a0_0 : List Int) (a0_1 : Int) (a0_2 : Int) (a1_0z : Bool) (a1_0 : List T) (a2 : Int) : answer Try.prog spec_l28Votes.Cs 100000 spec_l28Votes.cuts [true, false, true, true] Try.f21 (k + 1) [.box [((.nums 5 .u8 a0_0z a0_0), false), ((.int .i64 a0_1), false), ((.int .i64 a0_2), false)], .v (.agg [(.sl 82 a1_0z a1_0)]), .v (.int .i64 a2)] = (spec_l28Votes.f (k + 1) a0_0z a0_0 a0_1 a0_2 a1_0z a1_0 a2).map spec_l28Votes.enc := by
  have ih := spec_l28Votes.rounds_eq a0_0z a0_0 a0_1 a0_2 a1_0z a1_0 a2 k
  refine (spec_l28Votes.s k a0_0z a0_0 a0_1 a0_2 a1_0z a1_0 a2).trans (Eq.trans ?_ (spec_l28Votes.b_nat spec_l28Votes.enc some (spec_l28Votes.l0 k) k a0_0z a0_0 a0_1 a0_2 a1_0z a1_0 a2))
  simp only [ih, Option.map_some]
theorem spec_l28Votes.sound (k : Nat) : SoundF Try.prog 21 (fun a => (spec_l28Votes.ans k a).val) := by
  refine sound_plain (fun args res h => ?_) (fun t n => rfl)
  unfold spec_l28Votes.ans at h
  dsimp only at h
  split at h
  · cases k with
    | zero => cases h
    | succ k =>
      unfold Ans.val at h
      rw [← spec_l28Votes.eq] at h
      exact answer_sound mixed Try.func21 _ _ _ (k + 1) (fun j _ => tab_sound (tab_cons (spec_l01Below.sound j) (tab_cons (spec_SignVote.sound j) (tab_cons (spec_l01Once.sound j) (tab_cons (spec_l01Near.sound j) (tab_nil)))))) _ _ h
  · exact (Ans.no_val h).elim

/-! loop.example/g00790/spec.MakeVotes -/
def spec_MakeVotes.b {R : Type} (ret : Int × Int × Int × Int × Int × Bool × (List T) × Bool × List T → Option R) (k : Nat) (a0z : Bool) (a0 : List Int) : Option R :=
  (spec_l01New.f k a0z a0).bind fun t0 => (spec_l23Pair.f k t0.1 t0.2.1 t0.2.2.1 t0.2.2.2).bind fun t1 => (spec_l28Votes.f k t1.2.2.2.2.2.2.2.1 t1.2.2.2.2.2.2.2.2.1 t1.2.2.2.2.2.2.2.2.2.1 t1.2.2.2.2.2.2.2.2.2.2 t1.2.2.2.2.2.1 t1.2.2.2.2.2.2.1 12).bind fun t2 => ret (t1.1, t1.2.1, t1.2.2.1, t1.2.2.2.1, t1.2.2.2.2.1, t1.2.2.2.2.2.1, t1.2.2.2.2.2.2.1, t2.1, t2.2.1)
def spec_MakeVotes.f : Nat → Bool → (List Int) → Option (Int × Int × Int × Int × Int × Bool × (List T) × Bool × List T)
  | 0, _, _ => none
  | k + 1, a0z, a0 => spec_MakeVotes.b some k a0z a0
def spec_MakeVotes.enc (r : Int × Int × Int × Int × Int × Bool × (List T) × Bool × List T) : Res := ⟨[.vals true [((.int .i64 r.1), true), ((.int .i64 r.2.1), true), ((.int .i64 r.2.2.1), true), ((.int .i64 r.2.2.2.1), true), ((.int .i64 r.2.2.2.2.1), true)], .vals true [((.sl 82 r.2.2.2.2.2.1 r.2.2.2.2.2.2.1), true)], .vals false [((.sl 33 r.2.2.2.2.2.2.2.1 r.2.2.2.2.2.2.2.2), true)]], []⟩
def spec_MakeVotes.ans (k : Nat) : List Arg → Ans
  | [.v (.nums 5 .u8 a0z a0)] => ⟨spec_MakeVotes.f k a0z a0, spec_MakeVotes.enc⟩
  | _ => Ans.no
def spec_MakeVotes.Cs (k : Nat) : CallSem := tab [(19, spec_l01New.ans k), (20, spec_l23Pair.ans k), (21, spec_l28Votes.ans k)]
def spec_MakeVotes.cuts : List (Nat × Keep) := []
theorem spec_MakeVotes.s (k : Nat) (a0z : Bool) (a0 : List Int) : answer Try.prog spec_MakeVotes.Cs 100000 spec_MakeVotes.cuts [] Try.f5 (k + 1) [.v (.nums 5 .u8 a0z a0)] = spec_MakeVotes.b (fun r => some (spec_MakeVotes.enc r)) k a0z a0 := by kernel_rfl
theorem spec_MakeVotes.b_nat {R R' : Type} (e : R → R') (ret : Int × Int × Int × Int × Int × Bool × (List T) × Bool × List T → Option R) (k : Nat) (a0z : Bool) (a0 : List Int) : spec_MakeVotes.b (fun r => (ret r).map e) k a0z a0 = (spec_MakeVotes.b ret k a0z a0).map e := by
  unfold spec_MakeVotes.b
  repeat' first | with_reducible refine nat_cond ?_ ?_ | with_reducible refine nat_bind fun _ => ?_ | rfl
theorem spec_MakeVotes.eq (k : Nat) (a0z : Bool) (a0 : List Int) : answer Try.prog spec_MakeVotes.Cs 100000 spec_MakeVotes.cuts [] Try.f5 (k + 1) [.v (.nums 5 .u8 a0z a0)] = (spec_MakeVotes.f (k + 1) a0z a0).map spec_MakeVotes.enc := by
  refine (spec_MakeVotes.s k a0z a0).trans (Eq.trans ?_ (spec_MakeVotes.b_nat spec_MakeVotes.enc some k a0z a0))
  simp only [Option.map_some]
theorem spec_MakeVotes.sound (k : Nat) : SoundF Try.prog 5 (fun a => (spec_MakeVotes.ans k a).val) := by
  refine sound_plain (fun args res h => ?_) (fun t n => rfl)
  unfold spec_MakeVotes.ans at h
  dsimp only at h
  split at h
  · cases k with
    | zero => cases h
    | succ k =>
      unfold Ans.val at h
      rw [← spec_MakeVotes.eq] at h
      exact answer_sound mixed Try.func5 _ _ _ (k + 1) (fun j _ => tab_sound (tab_cons (spec_l01New.sound j) (tab_cons (spec_l23Pair.sound j) (tab_cons (spec_l28Votes.sound j) (tab_nil))))) _ _ h
  · exact (Ans.no_val h).elim

/-! loop.example/g00790/impl.within -/
def impl_within.b {R : Type} (ret : Bool → Option R) (k : Nat) (a0 : Int) (a1 : Int) (a2 : Int) : Option R :=
  cond (decide (a1 ≤ a0)) (ret (decide (a0 ≤ a2))) (ret false)
def impl_within.f : Nat → Int → Int → Int → Option Bool
  | 0, _, _, _ => none
  | k + 1, a0, a1, a2 => impl_within.b some k a0 a1 a2
def impl_within.enc (r : Bool) : Res := ⟨[.vals false [((.bool r), true)]], []⟩
def impl_within.ans (k : Nat) : List Arg → Ans
  | [.v (.int .i64 a0), .v (.int .i64 a1), .v (.int .i64 a2)] => ⟨impl_within.f k a0 a1 a2, impl_within.enc⟩
  | _ => Ans.no
def impl_within.Cs (k : Nat) : CallSem := tab []
def impl_within.cuts : List (Nat × Keep) := []
theorem impl_within.s (k : Nat) (a0 : Int) (a1 : Int) (a2 : Int) : answer Try.prog impl_within.Cs 100000 impl_within.cuts [] Try.f29 (k + 1) [.v (.int .i64 a0), .v (.int .i64 a1), .v (.int .i64 a2)] = impl_within.b (fun r => some (impl_within.enc r)) k a0 a1 a2 := by kernel_rfl
theorem impl_within.b_nat {R R' : Type} (e : R → R') (ret : Bool → Option R) (k : Nat) (a0 : Int) (a1 : Int) (a2 : Int) : impl_within.b (fun r => (ret r).map e) k a0 a1 a2 = (impl_within.b ret k a0 a1 a2).map e := by
  unfold impl_within.b
  repeat' first | with_reducible refine nat_cond ?_ ?_ | with_reducible refine nat_bind fun _ => ?_ | rfl
theorem impl_within.eq (k : Nat) (a0 : Int) (a1 : Int) (a2 : Int) : answer Try.prog impl_within.Cs 100000 impl_within.cuts [] Try.f29 (k + 1) [.v (.int .i64 a0), .v (.int .i64 a1), .v (.int .i64 a2)] = (impl_within.f (k + 1) a0 a1 a2).map impl_within.enc := by
  refine (impl_within.s k a0 a1 a2).trans (Eq.trans ?_ (impl_within.b_nat impl_within.enc some k a0 a1 a2))
  simp only [Option.map_some]
theorem impl_within.sound (k : Nat) : SoundF Try.prog 29 (fun a => (impl_within.ans k a).val) := by
  refine sound_plain (fun args res h => ?_) (fun t n => rfl)
  unfold impl_within.ans at h
  dsimp only at h
  split at h
  · cases k with
    | zero => cases h
    | succ k =>
      unfold Ans.val at h
      rw [← impl_within.eq] at h
      exact answer_sound mixed Try.func29 _ _ _ (k + 1) (fun j _ => tab_sound (tab_nil)) _ _ h
  · exact (Ans.no_val h).elim

/-! loop.example/g00790/impl.TableOk -/
def impl_TableOk.b {R : Type} (ret : Bool → Option R) (j0 : Bool → (List T) → Int → Int → Bool → (List T) → Option R) (k : Nat) (a0_0z : Bool) (a0_0 : List T) : Option R :=
  j0 a0_0z a0_0 ((a0_0).length : Int) 0 a0_0z a0_0
def impl_TableOk.l0b {R : Type} (ret : Bool → Option R) (j0 : Bool → (List T) → Int → Int → Bool → (List T) → Option R) (k : Nat) (x6z : Bool) (x6 : List T) (x7 : Int) (x8 : Int) (c1_0z : Bool) (c1_0 : List T) : Option R :=
  cond (decide (x8 < x7)) (cond (decide ((0 : Int) ≤ x8)) (cond (decide (x8 < ((x6).length : Int))) ((impl_within.f k (((((x6).getD (x8).toNat .bad).cells.getD 0 .bad)).toInt) 1 1099511627776).bind fun t0 => cond (!t0) (ret false) ((impl_within.f k ((((((x6).getD (x8).toNat .bad).cells.getD 1 .bad)).toNums).length : Int) 1 64).bind fun t1 => cond (!t1) (ret false) (j0 x6z x6 x7 (RowKit.wrap64 (x8 + 1)) c1_0z c1_0))) (none)) (none)) ((impl_within.f k ((c1_0).length : Int) 1 10).bind fun t0 => ret t0)
def impl_TableOk.l0 : Nat → Bool → (List T) → Int → Int → Bool → (List T) → Option Bool
  | 0, _, _, _, _, _, _ => none
  | k + 1, x6z, x6, x7, x8, c1_0z, c1_0 => impl_TableOk.l0b some (impl_TableOk.l0 k) k x6z x6 x7 x8 c1_0z c1_0
def impl_TableOk.f : Nat → Bool → (List T) → Option Bool
  | 0, _, _ => none
  | k + 1, a0_0z, a0_0 => impl_TableOk.b some (impl_TableOk.l0 k) k a0_0z a0_0
def impl_TableOk.enc (r : Bool) : Res := ⟨[.vals false [((.bool r), true)]], []⟩
def impl_TableOk.ans (k : Nat) : List Arg → Ans
  | [.v (.agg [(.sl 82 a0_0z a0_0)])] => ⟨impl_TableOk.f k a0_0z a0_0, impl_TableOk.enc⟩
  | _ => Ans.no
def impl_TableOk.Cs (k : Nat) : CallSem := tab [(29, impl_within.ans k)]
def impl_TableOk.cuts : List (Nat × Keep) := [(26, ⟨[(1, some []), (6, some []), (7, some []), (8, some [])], [(1, [some []])]⟩)]
noncomputable def impl_TableOk.K0 : List Fr := framesAt [true, false, true, false] (bodyOf Try.f42 impl_TableOk.cuts) []
def impl_TableOk.N0 (x6z : Bool) (x6 : List T) (x7 : Int) (x8 : Int) (c1_0z : Bool) (c1_0 : List T) : St := stOf 28 28 1 [(1, .bp 1 0), (6, .val ⟨(.sl 82 x6z x6), [], false, none⟩), (7, .val (V.s (.int .i64 x7))), (8, .val (V.s (.int .i64 x8)))] [(1, .cells [⟨(.sl 82 c1_0z c1_0), [], false, none⟩])]
theorem impl_TableOk.s (k : Nat) (a0_0z : Bool) (a0_0 : List T) : answer Try.prog impl_TableOk.Cs 100000 impl_TableOk.cuts [] Try.f42 (k + 1) [.v (.agg [(.sl 82 a0_0z a0_0)])] = impl_TableOk.b (fun r => some (impl_TableOk.enc r)) (fun x6z x6 x7 x8 c1_0z c1_0 => rounds Try.prog impl_TableOk.Cs (finish Try.prog [] Try.f42 [.v (.agg [(.sl 82 a0_0z a0_0)])]) 100000 k impl_TableOk.K0 (impl_TableOk.N0 x6z x6 x7 x8 c1_0z c1_0)) k a0_0z a0_0 := by kernel_rfl
theorem impl_TableOk.s0 (k : Nat) (G : List Fr → St → Option Res) (a0_0z : Bool) (a0_0 : List T) (yx6z : Bool) (yx6 : List T) (yx7 : Int) (yx8 : Int) (yc1_0z : Bool) (yc1_0 : List T) : resume Try.prog (impl_TableOk.Cs k) G (finish Try.prog [] Try.f42 [.v (.agg [(.sl 82 a0_0z a0_0)])]) 100000 impl_TableOk.K0 (impl_TableOk.N0 yx6z yx6 yx7 yx8 yc1_0z yc1_0) = impl_TableOk.l0b (fun r => some (impl_TableOk.enc r)) (fun x6z x6 x7 x8 c1_0z c1_0 => G impl_TableOk.K0 (impl_TableOk.N0 x6z x6 x7 x8 c1_0z c1_0)) k yx6z yx6 yx7 yx8 yc1_0z yc1_0 := by kernel_rfl
theorem impl_TableOk.b_nat {R R' : Type} (e : R → R') (ret : Bool → Option R) (j0 : Bool → (List T) → Int → Int → Bool → (List T) → Option R) (k : Nat) (a0_0z : Bool) (a0_0 : List T) : impl_TableOk.b (fun r => (ret r).map e) (fun x6z x6 x7 x8 c1_0z c1_0 => (j0 x6z x6 x7 x8 c1_0z c1_0).map e) k a0_0z a0_0 = (impl_TableOk.b ret j0 k a0_0z a0_0).map e := by
  unfold impl_TableOk.b
  repeat' first | with_reducible refine nat_cond ?_ ?_ | with_reducible refine nat_bind fun _ => ?_ | rfl
theorem impl_TableOk.l0b_nat {R R' : Type} (e : R → R') (ret : Bool → Option R) (j0 : Bool → (List T) → Int → Int → Bool → (List T) → Option R) (k : Nat) (x6z : Bool) (x6 : List T) (x7 : Int) (x8 : Int) (c1_0z : Bool) (c1_0 : List T) : impl_TableOk.l0b (fun r => (ret r).map e) (fun x6z x6 x7 x8 c1_0z c1_0 => (j0 x6z x6 x7 x8 c1_0z c1_0).map e) k x6z x6 x7 x8 c1_0z c1_0 = (impl_TableOk.l0b ret j0 k x6z x6 x7 x8 c1_0z c1_0).map e := by
  unfold impl_TableOk.l0b
  repeat' first | with_reducible refine nat_cond ?_ ?_ | with_reducible refine nat_bind fun _ => ?_ | rfl
theorem impl_TableOk.rounds_eq (a0_0z : Bool) (a0_0 : List T) : ∀ k, (∀ (x6z : Bool) (x6 : List T) (x7 : Int) (x8 : Int) (c1_0z : Bool) (c1_0 : List T), rounds Try.prog impl_TableOk.Cs (finish Try.prog [] Try.f42 [.v (.agg [(.sl 82 a0_0z a0_0)])]) 100000 k impl_TableOk.K0 (impl_TableOk.N0 x6z x6 x7 x8 c1_0z c1_0) = (impl_TableOk.l0 k x6z x6 x7 x8 c1_0z c1_0).map impl_TableOk.enc)
  | 0 => fun _ _ _ _ _ _ => rfl
  | k + 1 => by
    have ih := impl_TableOk.rounds_eq a0_0z a0_0 k
    refine fun _ _ _ _ _ _ => ?_
    · refine (impl_TableOk.s0 k _ a0_0z a0_0 _ _ _ _ _ _).trans (Eq.trans ?_ (impl_TableOk.l0b_nat impl_TableOk.enc some (impl_TableOk.l0 k) k _ _ _ _ _ _))
      simp only [ih, Option.map_some]
theorem impl_TableOk.eq (k : Nat) (a0_0z : Bool) (a0_0 : List T) : answer Try.prog impl_TableOk.Cs 100000 impl_TableOk.cuts [] Try.f42 (k + 1) [.v (.agg [(.sl 82 a0_0z a0_0)])] = (impl_TableOk.f (k + 1) a0_0z a0_0).map impl_TableOk.enc := by
  have ih := impl_TableOk.rounds_eq a0_0z a0_0 k
  refine (impl_TableOk.s k a0_0z a0_0).trans (Eq.trans ?_ (impl_TableOk.b_nat impl_TableOk.enc some (impl_TableOk.l0 k) k a0_0z a0_0))
  simp only [ih, Option.map_some]
theorem impl_TableOk.sound (k : Nat) : SoundF Try.prog 42 (fun a => (impl_TableOk.ans k a).val) := by
  refine sound_plain (fun args res h => ?_) (fun t n => rfl)
  unfold impl_TableOk.ans at h
  dsimp only at h
  split at h
  · cases k with
    | zero => cases h
    | succ k =>
      unfold Ans.val at h
      rw [← impl_TableOk.eq] at h
      exact answer_sound mixed Try.func42 _ _ _ (k + 1) (fun j _ => tab_sound (tab_cons (impl_within.sound j) (tab_nil))) _ _ h
  · exact (Ans.no_val h).elim

/-! loop.example/g00790/impl.isNum -/
def impl_isNum.b {R : Type} (ret : Bool → Option R) (k : Nat) (a0 : Int) : Option R :=
  (impl_within.f k a0 0 1152921504606846975).bind fun t0 => ret t0
def impl_isNum.f : Nat → Int → Option Bool
  | 0, _ => none
  | k + 1, a0 => impl_isNum.b some k a0
def impl_isNum.enc (r : Bool) : Res := ⟨[.vals false [((.bool r), true)]], []⟩
def impl_isNum.ans (k : Nat) : List Arg → Ans
  | [.v (.int .i64 a0)] => ⟨impl_isNum.f k a0, impl_isNum.enc⟩
  | _ => Ans.no
def impl_isNum.Cs (k : Nat) : CallSem := tab [(29, impl_within.ans k)]
def impl_isNum.cuts : List (Nat × Keep) := []
theorem impl_isNum.s (k : Nat) (a0 : Int) : answer Try.prog impl_isNum.Cs 100000 impl_isNum.cuts [] Try.f100 (k + 1) [.v (.int .i64 a0)] = impl_isNum.b (fun r => some (impl_isNum.enc r)) k a0 := by kernel_rfl
theorem impl_isNum.b_nat {R R' : Type} (e : R → R') (ret : Bool → Option R) (k : Nat) (a0 : Int) : impl_isNum.b (fun r => (ret r).map e) k a0 = (impl_isNum.b ret k a0).map e := by
  unfold impl_isNum.b
  repeat' first | with_reducible refine nat_cond ?_ ?_ | with_reducible refine nat_bind fun _ => ?_ | rfl
theorem impl_isNum.eq (k : Nat) (a0 : Int) : answer Try.prog impl_isNum.Cs 100000 impl_isNum.cuts [] Try.f100 (k + 1) [.v (.int .i64 a0)] = (impl_isNum.f (k + 1) a0).map impl_isNum.enc := by
  refine (impl_isNum.s k a0).trans (Eq.trans ?_ (impl_isNum.b_nat impl_isNum.enc some k a0))
  simp only [Option.map_some]
theorem impl_isNum.sound (k : Nat) : SoundF Try.prog 100 (fun a => (impl_isNum.ans k a).val) := by
  refine sound_plain (fun args res h => ?_) (fun t n => rfl)
  unfold impl_isNum.ans at h
  dsimp only at h
  split at h
  · cases k with
    | zero => cases h
    | succ k =>
      unfold Ans.val at h
      rw [← impl_isNum.eq] at h
      exact answer_sound mixed Try.func100 _ _ _ (k + 1) (fun j _ => tab_sound (tab_cons (impl_within.sound j) (tab_nil))) _ _ h
  · exact (Ans.no_val h).elim

/-! loop.example/g00790/impl.copyBytes -/
def impl_copyBytes.b {R : Type} (ret : Bool × List Int → Option R) (k : Nat) (a0z : Bool) (a0 : List Int) : Option R :=
  cond (decide (0 + (a0).length < 140737488355328)) (ret (((a0).isEmpty && false), a0)) (none)
def impl_copyBytes.f : Nat → Bool → (List Int) → Option (Bool × List Int)
  | 0, _, _ => none
  | k + 1, a0z, a0 => impl_copyBytes.b some k a0z a0
def impl_copyBytes.enc (r : Bool × List Int) : Res := ⟨[.vals false [((.nums 5 .u8 r.1 r.2), true)]], []⟩
def impl_copyBytes.ans (k : Nat) : List Arg → Ans
  | [.v (.nums 5 .u8 a0z a0)] => ⟨impl_copyBytes.f k a0z a0, impl_copyBytes.enc⟩
  | _ => Ans.no
def impl_copyBytes.Cs (k : Nat) : CallSem := tab []
def impl_copyBytes.cuts : List (Nat × Keep) := []
theorem impl_copyBytes.s (k : Nat) (a0z : Bool) (a0 : List Int) : answer Try.prog impl_copyBytes.Cs 100000 impl_copyBytes.cuts [] Try.f47 (k + 1) [.v (.nums 5 .u8 a0z a0)] = impl_copyBytes.b (fun r => some (impl_copyBytes.enc r)) k a0z a0 := by kernel_rfl
theorem impl_copyBytes.b_nat {R R' : Type} (e : R → R') (ret : Bool × List Int → Option R) (k : Nat) (a0z : Bool) (a0 : List Int) : impl_copyBytes.b (fun r => (ret r).map e) k a0z a0 = (impl_copyBytes.b ret k a0z a0).map e := by
  unfold impl_copyBytes.b
  repeat' first | with_reducible refine nat_cond ?_ ?_ | with_reducible refine nat_bind fun _ => ?_ | rfl
theorem impl_copyBytes.eq (k : Nat) (a0z : Bool) (a0 : List Int) : answer Try.prog impl_copyBytes.Cs 100000 impl_copyBytes.cuts [] Try.f47 (k + 1) [.v (.nums 5 .u8 a0z a0)] = (impl_copyBytes.f (k + 1) a0z a0).map impl_copyBytes.enc := by
  refine (impl_copyBytes.s k a0z a0).trans (Eq.trans ?_ (impl_copyBytes.b_nat impl_copyBytes.enc some k a0z a0))
  simp only [Option.map_some]
theorem impl_copyBytes.sound (k : Nat) : SoundF Try.prog 47 (fun a => (impl_copyBytes.ans k a).val) := by
  refine sound_plain (fun args res h => ?_) (fun t n => rfl)
  unfold impl_copyBytes.ans at h
  dsimp only at h
  split at h
  · cases k with
    | zero => cases h
    | succ k =>
      unfold Ans.val at h
      rw [← impl_copyBytes.eq] at h
      exact answer_sound mixed Try.func47 _ _ _ (k + 1) (fun j _ => tab_sound (tab_nil)) _ _ h
  · exact (Ans.no_val h).elim

/-! loop.example/g00790/impl.PutVar -/
def impl_PutVar.b {R : Type} (ret : Bool × (List Int) × Bool → Option R) (j0 : Int → Bool → (List Int) → Option R) (k : Nat) (a0z : Bool) (a0 : List Int) (a1 : Int) : Option R :=
  (impl_isNum.f k a1).bind fun t0 => cond (!t0) (ret (true, ([] : List Int), false)) ((impl_copyBytes.f k a0z a0).bind fun t1 => j0 a1 t1.1 t1.2)
def impl_PutVar.l0b {R : Type} (ret : Bool × (List Int) × Bool → Option R) (j0 : Int → Bool → (List Int) → Option R) (k : Nat) (x1 : Int) (x6z : Bool) (x6 : List Int) : Option R :=
  cond (decide (x1 ≥ 128)) (cond (decide ((x6).length + 1 < 140737488355328)) (j0 (RowKit.wrap64 (Int.tdiv x1 128)) false (x6 ++ ([(((RowKit.wrap64 ((Int.tmod x1 128) + 128))) % 256)] : List Int))) (none)) (cond (decide ((x6).length + 1 < 140737488355328)) (ret (false, (x6 ++ ([((x1) % 256)] : List Int)), true)) (none))
def impl_PutVar.l0 : Nat → Int → Bool → (List Int) → Option (Bool × (List Int) × Bool)
  | 0, _, _, _ => none
  | k + 1, x1, x6z, x6 => impl_PutVar.l0b some (impl_PutVar.l0 k) k x1 x6z x6
def impl_PutVar.f : Nat → Bool → (List Int) → Int → Option (Bool × (List Int) × Bool)
  | 0, _, _, _ => none
  | k + 1, a0z, a0, a1 => impl_PutVar.b some (impl_PutVar.l0 k) k a0z a0 a1
def impl_PutVar.enc (r : Bool × (List Int) × Bool) : Res := ⟨[.vals false [((.nums 5 .u8 r.1 r.2.1), true)], .vals false [((.bool r.2.2), true)]], []⟩
def impl_PutVar.ans (k : Nat) : List Arg → Ans
  | [.v (.nums 5 .u8 a0z a0), .v (.int .i64 a1)] => ⟨impl_PutVar.f k a0z a0 a1, impl_PutVar.enc⟩
  | _ => Ans.no
def impl_PutVar.Cs (k : Nat) : CallSem := tab [(100, impl_isNum.ans k), (47, impl_copyBytes.ans k)]
def impl_PutVar.cuts : List (Nat × Keep) := [(60, ⟨[(1, some []), (6, none)], []⟩)]
noncomputable def impl_PutVar.K0 : List Fr := framesAt [true, true, true, false, false] (bodyOf Try.f86 impl_PutVar.cuts) []
def impl_PutVar.N0 (x1 : Int) (x6z : Bool) (x6 : List Int) : St := stOf 28 28 2 [(1, .val (V.s (.int .i64 x1))), (6, .val ⟨(.nums 5 .u8 x6z x6), [.l 6 0], true, some (.l 6 0)⟩)] []
theorem impl_PutVar.s (k : Nat) (a0z : Bool) (a0 : List Int) (a1 : Int) : answer Try.prog impl_PutVar.Cs 100000 impl_PutVar.cuts [] Try.f86 (k + 1) [.v (.nums 5 .u8 a0z a0), .v (.int .i64 a1)] = impl_PutVar.b (fun r => some (impl_PutVar.enc r)) (fun x1 x6z x6 => rounds Try.prog impl_PutVar.Cs (finish Try.prog [] Try.f86 [.v (.nums 5 .u8 a0z a0), .v (.int .i64 a1)]) 100000 k impl_PutVar.K0 (impl_PutVar.N0 x1 x6z x6)) k a0z a0 a1 := by kernel_rfl
theorem impl_PutVar.s0 (k : Nat) (G : List Fr → St → Option Res) (a0z : Bool) (a0 : List Int) (a1 : Int) (yx1 : Int) (yx6z : Bool) (yx6 : List Int) : resume Try.prog (impl_PutVar.Cs k) G (finish Try.prog [] Try.f86 [.v (.nums 5 .u8 a0z a0), .v (.int .i64 a1)]) 100000 impl_PutVar.K0 (impl_PutVar.N0 yx1 yx6z yx6) = impl_PutVar.l0b (fun r => some (impl_PutVar.enc r)) (fun x1 x6z x6 => G impl_PutVar.K0 (impl_PutVar.N0 x1 x6z x6)) k yx1 yx6z yx6 := by kernel_rfl
theorem impl_PutVar.b_nat {R R' : Type} (e : R → R') (ret : Bool × (List Int) × Bool → Option R) (j0 : Int → Bool → (List Int) → Option R) (k : Nat) (a0z : Bool) (a0 : List Int) (a1 : Int) : impl_PutVar.b (fun r => (ret r).map e) (fun x1 x6z x6 => (j0 x1 x6z x6).map e) k a0z a0 a1 = (impl_PutVar.b ret j0 k a0z a0 a1).map e := by
  unfold impl_PutVar.b
  repeat' first | with_reducible refine nat_cond ?_ ?_ | with_reducible refine nat_bind fun _ => ?_ | rfl
theorem impl_PutVar.l0b_nat {R R' : Type} (e : R → R') (ret : Bool × (List Int) × Bool → Option R) (j0 : Int → Bool → (List Int) → Option R) (k : Nat) (x1 : Int) (x6z : Bool) (x6 : List Int) : impl_PutVar.l0b (fun r => (ret r).map e) (fun x1 x6z x6 => (j0 x1 x6z x6).map e) k x1 x6z x6 = (impl_PutVar.l0b ret j0 k x1 x6z x6).map e := by
  unfold impl_PutVar.l0b
  repeat' first | with_reducible refine nat_cond ?_ ?_ | with_reducible refine nat_bind fun _ => ?_ | rfl
theorem impl_PutVar.rounds_eq (a0z : Bool) (a0 : List Int) (a1 : Int) : ∀ k, (∀ (x1 : Int) (x6z : Bool) (x6 : List Int), rounds Try.prog impl_PutVar.Cs (finish Try.prog [] Try.f86 [.v (.nums 5 .u8 a0z a0), .v (.int .i64 a1)]) 100000 k impl_PutVar.K0 (impl_PutVar.N0 x1 x6z x6) = (impl_PutVar.l0 k x1 x6z x6).map impl_PutVar.enc)
  | 0 => fun _ _ _ => rfl
  | k + 1 => by
    have ih := impl_PutVar.rounds_eq a0z a0 a1 k
    refine fun _ _ _ => ?_
    · refine (impl_PutVar.s0 k _ a0z a0 a1 _ _ _).trans (Eq.trans ?_ (impl_PutVar.l0b_nat impl_PutVar.enc some (impl_PutVar.l0 k) k _ _ _))
      simp only [ih, Option.map_some]
theorem impl_PutVar.eq (k : Nat) (a0z : Bool) (a0 : List Int) (a1 : Int) : answer Try.prog impl_PutVar.Cs 100000 impl_PutVar.cuts [] Try.f86 (k + 1) [.v (.nums 5 .u8 a0z a0), .v (.int .i64 a1)] = (impl_PutVar.f (k + 1) a0z a0 a1).map impl_PutVar.enc := by
  have ih := impl_PutVar.rounds_eq a0z a0 a1 k
  refine (impl_PutVar.s k a0z a0 a1).trans (Eq.trans ?_ (impl_PutVar.b_nat impl_PutVar.enc some (impl_PutVar.l0 k) k a0z a0 a1))
  simp only [ih, Option.map_some]
theorem impl_PutVar.sound (k : Nat) : SoundF Try.prog 86 (fun a => (impl_PutVar.ans k a).val) := by
  refine sound_plain (fun args res h => ?_) (fun t n => rfl)
  unfold impl_PutVar.ans at h
  dsimp only at h
  split at h
  · cases k with
    | zero => cases h
    | succ k =>
      unfold Ans.val at h
      rw [← impl_PutVar.eq] at h
      exact answer_sound mixed Try.func86 _ _ _ (k + 1) (fun j _ => tab_sound (tab_cons (impl_isNum.sound j) (tab_cons (impl_copyBytes.sound j) (tab_nil)))) _ _ h
  · exact (Ans.no_val h).elim

/-! loop.example/g00790/impl.numbers -/
def impl_numbers.b {R : Type} (ret : Bool × List Int → Option R) (j0 : Bool → (List Int) → Bool → (List Int) → Int → Int → Option R) (k : Nat) (a0 : Int) (a1z : Bool) (a1 : List Int) : Option R :=
  j0 false ([a0] : List Int) a1z a1 ((a1).length : Int) 0
def impl_numbers.l0b {R : Type} (ret : Bool × List Int → Option R) (j0 : Bool → (List Int) → Bool → (List Int) → Int → Int → Option R) (k : Nat) (x5z : Bool) (x5 : List Int) (x12z : Bool) (x12 : List Int) (x13 : Int) (x14 : Int) : Option R :=
  cond (decide (x14 < x13)) (cond (decide ((0 : Int) ≤ x14)) (cond (decide (x14 < ((x12).length : Int))) ((impl_PutVar.f k x5z x5 (rdI x12 x14)).bind fun t0 => cond (!t0.2.2) (ret (true, ([] : List Int))) (j0 t0.1 t0.2.1 x12z x12 x13 (RowKit.wrap64 (x14 + 1)))) (none)) (none)) (ret (x5z, x5))
def impl_numbers.l0 : Nat → Bool → (List Int) → Bool → (List Int) → Int → Int → Option (Bool × List Int)
  | 0, _, _, _, _, _, _ => none
  | k + 1, x5z, x5, x12z, x12, x13, x14 => impl_numbers.l0b some (impl_numbers.l0 k) k x5z x5 x12z x12 x13 x14
def impl_numbers.f : Nat → Int → Bool → (List Int) → Option (Bool × List Int)
  | 0, _, _, _ => none
  | k + 1, a0, a1z, a1 => impl_numbers.b some (impl_numbers.l0 k) k a0 a1z a1
def impl_numbers.enc (r : Bool × List Int) : Res := ⟨[.vals false [((.nums 5 .u8 r.1 r.2), true)]], []⟩
def impl_numbers.ans (k : Nat) : List Arg → Ans
  | [.v (.int .u8 a0), .v (.nums 3 .i64 a1z a1)] => ⟨impl_numbers.f k a0 a1z a1, impl_numbers.enc⟩
  | _ => Ans.no
def impl_numbers.Cs (k : Nat) : CallSem := tab [(86, impl_PutVar.ans k)]
def impl_numbers.cuts : List (Nat × Keep) := [(58, ⟨[(5, none), (12, some []), (13, some []), (14, some [])], []⟩)]
noncomputable def impl_numbers.K0 : List Fr := framesAt [true, true, false, true, false] (bodyOf Try.f63 impl_numbers.cuts) []
def impl_numbers.N0 (x5z : Bool) (x5 : List Int) (x12z : Bool) (x12 : List Int) (x13 : Int) (x14 : Int) : St := stOf 29 29 2 [(5, .val ⟨(.nums 5 .u8 x5z x5), [.l 5 0], true, some (.l 5 0)⟩), (12, .val ⟨(.nums 3 .i64 x12z x12), [], false, none⟩), (13, .val (V.s (.int .i64 x13))), (14, .val (V.s (.int .i64 x14)))] []
theorem impl_numbers.s (k : Nat) (a0 : Int) (a1z : Bool) (a1 : List Int) : answer Try.prog impl_numbers.Cs 100000 impl_numbers.cuts [] Try.f63 (k + 1) [.v (.int .u8 a0), .v (.nums 3 .i64 a1z a1)] = impl_numbers.b (fun r => some (impl_numbers.enc r)) (fun x5z x5 x12z x12 x13 x14 => rounds Try.prog impl_numbers.Cs (finish Try.prog [] Try.f63 [.v (.int .u8 a0), .v (.nums 3 .i64 a1z a1)]) 100000 k impl_numbers.K0 (impl_numbers.N0 x5z x5 x12z x12 x13 x14)) k a0 a1z a1 := by kernel_rfl
theorem impl_numbers.s0 (k : Nat) (G : List Fr → St → Option Res) (a0 : Int) (a1z : Bool) (a1 : List Int) (yx5z : Bool) (yx5 : List Int) (yx12z : Bool) (yx12 : List Int) (yx13 : Int) (yx14 : Int) : resume Try.prog (impl_numbers.Cs k) G (finish Try.prog [] Try.f63 [.v (.int .u8 a0), .v (.nums 3 .i64 a1z a1)]) 100000 impl_numbers.K0 (impl_numbers.N0 yx5z yx5 yx12z yx12 yx13 yx14) = impl_numbers.l0b (fun r => some (impl_numbers.enc r)) (fun x5z x5 x12z x12 x13 x14 => G impl_numbers.K0 (impl_numbers.N0 x5z x5 x12z x12 x13 x14)) k yx5z yx5 yx12z yx12 yx13 yx14 := by kernel_rfl
theorem impl_numbers.b_nat {R R' : Type} (e : R → R') (ret : Bool × List Int → Option R) (j0 : Bool → (List Int) → Bool → (List Int) → Int → Int → Option R) (k : Nat) (a0 : Int) (a1z : Bool) (a1 : List Int) : impl_numbers.b (fun r => (ret r).map e) (fun x5z x5 x12z x12 x13 x14 => (j0 x5z x5 x12z x12 x13 x14).map e) k a0 a1z a1 = (impl_numbers.b ret j0 k a0 a1z a1).map e := by
  unfold impl_numbers.b
  repeat' first | with_reducible refine nat_cond ?_ ?_ | with_reducible refine nat_bind fun _ => ?_ | rfl
theorem impl_numbers.l0b_nat {R R' : Type} (e : R → R') (ret : Bool × List Int → Option R) (j0 : Bool → (List Int) → Bool → (List Int) → Int → Int → Option R) (k : Nat) (x5z : Bool) (x5 : List Int) (x12z : Bool) (x12 : List Int) (x13 : Int) (x14 : Int) : impl_numbers.l0b (fun r => (ret r).map e) (fun x5z x5 x12z x12 x13 x14 => (j0 x5z x5 x12z x12 x13 x14).map e) k x5z x5 x12z x12 x13 x14 = (impl_numbers.l0b ret j0 k x5z x5 x12z x12 x13 x14).map e := by
  unfold impl_numbers.l0b
  repeat' first | with_reducible refine nat_cond ?_ ?_ | with_reducible refine nat_bind fun _ => ?_ | rfl
theorem impl_numbers.rounds_eq (a0 : Int) (a1z : Bool) (a1 : List Int) : ∀ k, (∀ (x5z : Bool) (x5 : List Int) (x12z : Bool) (x12 : List Int) (x13 : Int) (x14 : Int), rounds Try.prog impl_numbers.Cs (finish Try.prog [] Try.f63 [.v (.int .u8 a0), .v (.nums 3 .i64 a1z a1)]) 100000 k impl_numbers.K0 (impl_numbers.N0 x5z x5 x12z x12 x13 x14) = (impl_numbers.l0 k x5z x5 x12z x12 x13 x14).map impl_numbers.enc)
  | 0 => fun _ _ _ _ _ _ => rfl
  | k + 1 => by
    have ih := impl_numbers.rounds_eq a0 a1z a1 k
    refine fun _ _ _ _ _ _ => ?_
    · refine (impl_numbers.s0 k _ a0 a1z a1 _ _ _ _ _ _).trans (Eq.trans ?_ (impl_numbers.l0b_nat impl_numbers.enc some (impl_numbers.l0 k) k _ _ _ _ _ _))
      simp only [ih, Option.map_some]
theorem impl_numbers.eq (k : Nat) (a0 : Int) (a1z : Bool) (a1 : List Int) : answer Try.prog impl_numbers.Cs 100000 impl_numbers.cuts [] Try.f63 (k + 1) [.v (.int .u8 a0), .v (.nums 3 .i64 a1z a1)] = (impl_numbers.f (k + 1) a0 a1z a1).map impl_numbers.enc := by
  have ih := impl_numbers.rounds_eq a0 a1z a1 k
  refine (impl_numbers.s k a0 a1z a1).trans (Eq.trans ?_ (impl_numbers.b_nat impl_numbers.enc some (impl_numbers.l0 k) k a0 a1z a1))
  simp only [ih, Option.map_some]
theorem impl_numbers.sound (k : Nat) : SoundF Try.prog 63 (fun a => (impl_numbers.ans k a).val) := by
  refine sound_plain (fun args res h => ?_) (fun t n => rfl)
  unfold impl_numbers.ans at h
  dsimp only at h
  split at h
  · cases k with
    | zero => cases h
    | succ k =>
      unfold Ans.val at h
      rw [← impl_numbers.eq] at h
      exact answer_sound mixed Try.func63 _ _ _ (k + 1) (fun j _ => tab_sound (tab_cons (impl_PutVar.sound j) (tab_nil))) _ _ h
  · exact (Ans.no_val h).elim

end Go.Proofs.YthocpcfjfgnkgaaG
