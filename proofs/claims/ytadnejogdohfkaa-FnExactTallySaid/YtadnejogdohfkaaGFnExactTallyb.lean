/- What the functions compute, printed by a program of this repo; each is shown to be what the machine of values answers. No condition. -/
import Derived.Test.YtadnejogdohfkaaProg
import Derived.KernelRfl
import Derived.Test.YtadnejogdohfkaaGFnExactTallya
namespace Go.Proofs.YtadnejogdohfkaaG
open Go Go.Proofs.YtadnejogdohfkaaRv Go.Proofs
set_option linter.unusedVariables false
set_option linter.unusedSimpArgs false
/-! loop.example/g00790/spec.ShaBlock -/
def spec_ShaBlock.b {R : Type} (ret : Bool × List Int → Option R) (j0 : Bool → (List Int) → Bool → (List Int) → Bool → (List Int) → Int → Int → Option R) (j1 : Bool → (List Int) → Bool → (List Int) → (List Int) → Int → Option R) (j2 : Bool → (List Int) → (List Int) → Int → Option R) (j3 : Bool → (List Int) → (List Int) → Bool → (List Int) → Bool → (List Int) → Int → Option R) (j4 : Bool → (List Int) → Bool → (List Int) → (List Int) → Int → Int → Option R) (k : Nat) (a0z : Bool) (a0 : List Int) (a1z : Bool) (a1 : List Int) : Option R :=
  cond (!(decide (((a0).length : Int) = 8))) (ret (true, ([] : List Int))) (cond (!(decide (((a1).length : Int) = 64))) (ret (true, ([] : List Int))) (j0 a0z a0 a1z a1 a0z a0 ((a0).length : Int) 0))
def spec_ShaBlock.l0b {R : Type} (ret : Bool × List Int → Option R) (j0 : Bool → (List Int) → Bool → (List Int) → Bool → (List Int) → Int → Int → Option R) (j1 : Bool → (List Int) → Bool → (List Int) → (List Int) → Int → Option R) (j2 : Bool → (List Int) → (List Int) → Int → Option R) (j3 : Bool → (List Int) → (List Int) → Bool → (List Int) → Bool → (List Int) → Int → Option R) (j4 : Bool → (List Int) → Bool → (List Int) → (List Int) → Int → Int → Option R) (k : Nat) (x0z : Bool) (x0 : List Int) (x1z : Bool) (x1 : List Int) (x31z : Bool) (x31 : List Int) (x32 : Int) (x33 : Int) : Option R :=
  cond (decide (x33 < x32)) (cond (decide ((0 : Int) ≤ x33)) (cond (decide (x33 < ((x31).length : Int))) ((spec_l04Word.f k (rdI x31 x33)).bind fun t0 => cond (!t0) (ret (true, ([] : List Int))) (j0 x0z x0 x1z x1 x31z x31 x32 (RowKit.wrap64 (x33 + 1)))) (none)) (none)) (j1 x0z x0 x1z x1 ([] : List Int) 0)
def spec_ShaBlock.l1b {R : Type} (ret : Bool × List Int → Option R) (j0 : Bool → (List Int) → Bool → (List Int) → Bool → (List Int) → Int → Int → Option R) (j1 : Bool → (List Int) → Bool → (List Int) → (List Int) → Int → Option R) (j2 : Bool → (List Int) → (List Int) → Int → Option R) (j3 : Bool → (List Int) → (List Int) → Bool → (List Int) → Bool → (List Int) → Int → Option R) (j4 : Bool → (List Int) → Bool → (List Int) → (List Int) → Int → Int → Option R) (k : Nat) (x0z : Bool) (x0 : List Int) (x1z : Bool) (x1 : List Int) (x7 : List Int) (x8 : Int) : Option R :=
  cond (decide (x8 < 64)) (cond (decide ((0 : Int) ≤ x8)) (cond (decide (x8 < ((x1).length : Int))) (cond (decide ((0 : Int) ≤ (RowKit.wrap64 (x8 + 1)))) (cond (decide ((RowKit.wrap64 (x8 + 1)) < ((x1).length : Int))) (cond (decide ((0 : Int) ≤ (RowKit.wrap64 (x8 + 2)))) (cond (decide ((RowKit.wrap64 (x8 + 2)) < ((x1).length : Int))) (cond (decide ((0 : Int) ≤ (RowKit.wrap64 (x8 + 3)))) (cond (decide ((RowKit.wrap64 (x8 + 3)) < ((x1).length : Int))) (cond (decide ((x7).length + 1 < 17592186044416)) (j1 x0z x0 x1z x1 (x7 ++ ([(Go.bits .or .i64 (Go.bits .or .i64 (Go.bits .or .i64 (shlI .i64 (RowKit.wrap64 ((rdI x1 x8))) 24) (shlI .i64 (RowKit.wrap64 ((rdI x1 (RowKit.wrap64 (x8 + 1))))) 16)) (shlI .i64 (RowKit.wrap64 ((rdI x1 (RowKit.wrap64 (x8 + 2))))) 8)) (RowKit.wrap64 ((rdI x1 (RowKit.wrap64 (x8 + 3))))))] : List Int)) (RowKit.wrap64 (x8 + 4))) (none)) (none)) (none)) (none)) (none)) (none)) (none)) (none)) (none)) (j2 x0z x0 x7 16)
def spec_ShaBlock.l2b {R : Type} (ret : Bool × List Int → Option R) (j0 : Bool → (List Int) → Bool → (List Int) → Bool → (List Int) → Int → Int → Option R) (j1 : Bool → (List Int) → Bool → (List Int) → (List Int) → Int → Option R) (j2 : Bool → (List Int) → (List Int) → Int → Option R) (j3 : Bool → (List Int) → (List Int) → Bool → (List Int) → Bool → (List Int) → Int → Option R) (j4 : Bool → (List Int) → Bool → (List Int) → (List Int) → Int → Int → Option R) (k : Nat) (x0z : Bool) (x0 : List Int) (x7 : List Int) (x9 : Int) : Option R :=
  cond (decide (x9 < 64)) (cond (decide ((0 : Int) ≤ (RowKit.wrap64 (x9 - 15)))) (cond (decide ((RowKit.wrap64 (x9 - 15)) < ((x7).length : Int))) (cond (decide ((0 : Int) ≤ (RowKit.wrap64 (x9 - 2)))) (cond (decide ((RowKit.wrap64 (x9 - 2)) < ((x7).length : Int))) ((spec_l04Turn.f k (rdI x7 (RowKit.wrap64 (x9 - 15))) 7).bind fun t0 => (spec_l04Turn.f k (rdI x7 (RowKit.wrap64 (x9 - 15))) 18).bind fun t1 => (spec_l04Turn.f k (rdI x7 (RowKit.wrap64 (x9 - 2))) 17).bind fun t2 => (spec_l04Turn.f k (rdI x7 (RowKit.wrap64 (x9 - 2))) 19).bind fun t3 => cond (decide ((0 : Int) ≤ (RowKit.wrap64 (x9 - 16)))) (cond (decide ((RowKit.wrap64 (x9 - 16)) < ((x7).length : Int))) (cond (decide ((0 : Int) ≤ (RowKit.wrap64 (x9 - 7)))) (cond (decide ((RowKit.wrap64 (x9 - 7)) < ((x7).length : Int))) (cond (decide ((x7).length + 1 < 17592186044416)) (j2 x0z x0 (x7 ++ ([(Go.bits .and .i64 (RowKit.wrap64 ((RowKit.wrap64 ((RowKit.wrap64 ((rdI x7 (RowKit.wrap64 (x9 - 16))) + (Go.bits .xor .i64 (Go.bits .xor .i64 t0 t1) (shrI .i64 (rdI x7 (RowKit.wrap64 (x9 - 15))) 3)))) + (rdI x7 (RowKit.wrap64 (x9 - 7))))) + (Go.bits .xor .i64 (Go.bits .xor .i64 t2 t3) (shrI .i64 (rdI x7 (RowKit.wrap64 (x9 - 2))) 10)))) 4294967295)] : List Int)) (RowKit.wrap64 (x9 + 1))) (none)) (none)) (none)) (none)) (none)) (none)) (none)) (none)) (none)) ((spec_l04K.f k).bind fun t0 => cond (decide (0 + (x0).length < 17592186044416)) (j3 x0z x0 x7 t0.1 t0.2 ((x0).isEmpty && false) x0 0) (none))
def spec_ShaBlock.l3b {R : Type} (ret : Bool × List Int → Option R) (j0 : Bool → (List Int) → Bool → (List Int) → Bool → (List Int) → Int → Int → Option R) (j1 : Bool → (List Int) → Bool → (List Int) → (List Int) → Int → Option R) (j2 : Bool → (List Int) → (List Int) → Int → Option R) (j3 : Bool → (List Int) → (List Int) → Bool → (List Int) → Bool → (List Int) → Int → Option R) (j4 : Bool → (List Int) → Bool → (List Int) → (List Int) → Int → Int → Option R) (k : Nat) (x0z : Bool) (x0 : List Int) (x7 : List Int) (x14z : Bool) (x14 : List Int) (x15z : Bool) (x15 : List Int) (x16 : Int) : Option R :=
  cond (decide (x16 < 64)) (cond (decide ((4 : Int) < ((x15).length : Int))) (cond (decide ((0 : Int) < ((x15).length : Int))) (cond (decide ((7 : Int) < ((x15).length : Int))) ((spec_l04Turn.f k (rdI x15 4) 6).bind fun t0 => (spec_l04Turn.f k (rdI x15 4) 11).bind fun t1 => (spec_l04Turn.f k (rdI x15 4) 25).bind fun t2 => cond (decide ((5 : Int) < ((x15).length : Int))) (cond (decide ((6 : Int) < ((x15).length : Int))) (cond (decide ((0 : Int) ≤ x16)) (cond (decide (x16 < ((x14).length : Int))) (cond (decide ((0 : Int) ≤ x16)) (cond (decide (x16 < ((x7).length : Int))) ((spec_l04Turn.f k (rdI x15 0) 2).bind fun t3 => (spec_l04Turn.f k (rdI x15 0) 13).bind fun t4 => (spec_l04Turn.f k (rdI x15 0) 22).bind fun t5 => cond (decide ((1 : Int) < ((x15).length : Int))) (cond (decide ((2 : Int) < ((x15).length : Int))) (cond (decide ((1 : Int) < ((x15).length : Int))) (cond (decide ((2 : Int) < ((x15).length : Int))) (cond (decide ((0 : Int) < ((x15).length : Int))) (cond (decide ((1 : Int) < ((x15).length : Int))) (cond (decide ((2 : Int) < ((x15).length : Int))) (cond (decide ((3 : Int) < ((x15).length : Int))) (cond (decide ((4 : Int) < ((x15).length : Int))) (cond (decide ((5 : Int) < ((x15).length : Int))) (cond (decide ((6 : Int) < ((x15).length : Int))) (j3 x0z x0 x7 x14z x14 false ([(Go.bits .and .i64 (RowKit.wrap64 ((RowKit.wrap64 ((RowKit.wrap64 ((RowKit.wrap64 ((RowKit.wrap64 ((rdI x15 7) + (Go.bits .xor .i64 (Go.bits .xor .i64 t0 t1) t2))) + (Go.bits .xor .i64 (Go.bits .and .i64 (rdI x15 4) (rdI x15 5)) (Go.bits .and .i64 (Go.bits .xor .i64 4294967295 (rdI x15 4)) (rdI x15 6))))) + (rdI x14 x16))) + (rdI x7 x16))) + (RowKit.wrap64 ((Go.bits .xor .i64 (Go.bits .xor .i64 t3 t4) t5) + (Go.bits .xor .i64 (Go.bits .xor .i64 (Go.bits .and .i64 (rdI x15 0) (rdI x15 1)) (Go.bits .and .i64 (rdI x15 0) (rdI x15 2))) (Go.bits .and .i64 (rdI x15 1) (rdI x15 2))))))) 4294967295), (rdI x15 0), (rdI x15 1), (rdI x15 2), (Go.bits .and .i64 (RowKit.wrap64 ((rdI x15 3) + (RowKit.wrap64 ((RowKit.wrap64 ((RowKit.wrap64 ((RowKit.wrap64 ((rdI x15 7) + (Go.bits .xor .i64 (Go.bits .xor .i64 t0 t1) t2))) + (Go.bits .xor .i64 (Go.bits .and .i64 (rdI x15 4) (rdI x15 5)) (Go.bits .and .i64 (Go.bits .xor .i64 4294967295 (rdI x15 4)) (rdI x15 6))))) + (rdI x14 x16))) + (rdI x7 x16))))) 4294967295), (rdI x15 4), (rdI x15 5), (rdI x15 6)] : List Int) (RowKit.wrap64 (x16 + 1))) (none)) (none)) (none)) (none)) (none)) (none)) (none)) (none)) (none)) (none)) (none)) (none)) (none)) (none)) (none)) (none)) (none)) (none)) (none)) (none)) (j4 x0z x0 x15z x15 ([] : List Int) ((x0).length : Int) 0)
def spec_ShaBlock.l4b {R : Type} (ret : Bool × List Int → Option R) (j0 : Bool → (List Int) → Bool → (List Int) → Bool → (List Int) → Int → Int → Option R) (j1 : Bool → (List Int) → Bool → (List Int) → (List Int) → Int → Option R) (j2 : Bool → (List Int) → (List Int) → Int → Option R) (j3 : Bool → (List Int) → (List Int) → Bool → (List Int) → Bool → (List Int) → Int → Option R) (j4 : Bool → (List Int) → Bool → (List Int) → (List Int) → Int → Int → Option R) (k : Nat) (x0z : Bool) (x0 : List Int) (x15z : Bool) (x15 : List Int) (x21 : List Int) (x235 : Int) (x236 : Int) : Option R :=
  cond (decide (x236 < x235)) (cond (decide ((0 : Int) ≤ x236)) (cond (decide (x236 < ((x0).length : Int))) (cond (decide ((0 : Int) ≤ x236)) (cond (decide (x236 < ((x15).length : Int))) (cond (decide ((x21).length + 1 < 17592186044416)) (j4 x0z x0 x15z x15 (x21 ++ ([(Go.bits .and .i64 (RowKit.wrap64 ((rdI x0 x236) + (rdI x15 x236))) 4294967295)] : List Int)) x235 (RowKit.wrap64 (x236 + 1))) (none)) (none)) (none)) (none)) (none)) (ret (false, x21))
mutual
def spec_ShaBlock.l0 : Nat → Bool → (List Int) → Bool → (List Int) → Bool → (List Int) → Int → Int → Option (Bool × List Int)
  | 0, _, _, _, _, _, _, _, _ => none
  | k + 1, x0z, x0, x1z, x1, x31z, x31, x32, x33 => spec_ShaBlock.l0b some (spec_ShaBlock.l0 k) (spec_ShaBlock.l1 k) (spec_ShaBlock.l2 k) (spec_ShaBlock.l3 k) (spec_ShaBlock.l4 k) k x0z x0 x1z x1 x31z x31 x32 x33
def spec_ShaBlock.l1 : Nat → Bool → (List Int) → Bool → (List Int) → (List Int) → Int → Option (Bool × List Int)
  | 0, _, _, _, _, _, _ => none
  | k + 1, x0z, x0, x1z, x1, x7, x8 => spec_ShaBlock.l1b some (spec_ShaBlock.l0 k) (spec_ShaBlock.l1 k) (spec_ShaBlock.l2 k) (spec_ShaBlock.l3 k) (spec_ShaBlock.l4 k) k x0z x0 x1z x1 x7 x8
def spec_ShaBlock.l2 : Nat → Bool → (List Int) → (List Int) → Int → Option (Bool × List Int)
  | 0, _, _, _, _ => none
  | k + 1, x0z, x0, x7, x9 => spec_ShaBlock.l2b some (spec_ShaBlock.l0 k) (spec_ShaBlock.l1 k) (spec_ShaBlock.l2 k) (spec_ShaBlock.l3 k) (spec_ShaBlock.l4 k) k x0z x0 x7 x9
def spec_ShaBlock.l3 : Nat → Bool → (List Int) → (List Int) → Bool → (List Int) → Bool → (List Int) → Int → Option (Bool × List Int)
  | 0, _, _, _, _, _, _, _, _ => none
  | k + 1, x0z, x0, x7, x14z, x14, x15z, x15, x16 => spec_ShaBlock.l3b some (spec_ShaBlock.l0 k) (spec_ShaBlock.l1 k) (spec_ShaBlock.l2 k) (spec_ShaBlock.l3 k) (spec_ShaBlock.l4 k) k x0z x0 x7 x14z x14 x15z x15 x16
def spec_ShaBlock.l4 : Nat → Bool → (List Int) → Bool → (List Int) → (List Int) → Int → Int → Option (Bool × List Int)
  | 0, _, _, _, _, _, _, _ => none
  | k + 1, x0z, x0, x15z, x15, x21, x235, x236 => spec_ShaBlock.l4b some (spec_ShaBlock.l0 k) (spec_ShaBlock.l1 k) (spec_ShaBlock.l2 k) (spec_ShaBlock.l3 k) (spec_ShaBlock.l4 k) k x0z x0 x15z x15 x21 x235 x236
end
def spec_ShaBlock.f : Nat → Bool → (List Int) → Bool → (List Int) → Option (Bool × List Int)
  | 0, _, _, _, _ => none
  | k + 1, a0z, a0, a1z, a1 => spec_ShaBlock.b some (spec_ShaBlock.l0 k) (spec_ShaBlock.l1 k) (spec_ShaBlock.l2 k) (spec_ShaBlock.l3 k) (spec_ShaBlock.l4 k) k a0z a0 a1z a1
def spec_ShaBlock.enc (r : Bool × List Int) : Res := ⟨[.vals false [((.nums 3 .i64 r.1 r.2), true)]], []⟩
def spec_ShaBlock.ans (k : Nat) : List Arg → Ans
  | [.v (.nums 3 .i64 a0z a0), .v (.nums 5 .u8 a1z a1)] => ⟨spec_ShaBlock.f k a0z a0 a1z a1, spec_ShaBlock.enc⟩
  | _ => Ans.no
def spec_ShaBlock.Cs (k : Nat) : CallSem := tab [(212, spec_l04Word.ans k), (213, spec_l04Turn.ans k), (214, spec_l04K.ans k)]
def spec_ShaBlock.cuts : List (Nat × Keep) := [(58, ⟨[(0, some []), (1, some []), (31, some []), (32, some []), (33, some [])], []⟩), (250, ⟨[(0, some []), (1, some []), (7, none), (8, some [])], []⟩), (506, ⟨[(0, some []), (7, none), (9, some [])], []⟩), (4090, ⟨[(0, some []), (7, none), (14, none), (15, none), (16, some [])], []⟩), (16378, ⟨[(0, some []), (15, none), (21, none), (235, some []), (236, some [])], []⟩)]
noncomputable def spec_ShaBlock.K0 : List Fr := framesAt [true, true, false, true, false] (bodyOf Try.f196 spec_ShaBlock.cuts) []
def spec_ShaBlock.N0 (x0z : Bool) (x0 : List Int) (x1z : Bool) (x1 : List Int) (x31z : Bool) (x31 : List Int) (x32 : Int) (x33 : Int) : St := stOf 254 254 2 [(0, .val ⟨(.nums 3 .i64 x0z x0), [], false, none⟩), (1, .val ⟨(.nums 5 .u8 x1z x1), [], false, none⟩), (31, .val ⟨(.nums 3 .i64 x31z x31), [], false, none⟩), (32, .val (V.s (.int .i64 x32))), (33, .val (V.s (.int .i64 x33)))] []
noncomputable def spec_ShaBlock.K1 : List Fr := framesAt [true, true, true, true, false, true, false] (bodyOf Try.f196 spec_ShaBlock.cuts) []
def spec_ShaBlock.N1 (x0z : Bool) (x0 : List Int) (x1z : Bool) (x1 : List Int) (x7 : List Int) (x8 : Int) : St := stOf 254 254 2 [(0, .val ⟨(.nums 3 .i64 x0z x0), [], false, none⟩), (1, .val ⟨(.nums 5 .u8 x1z x1), [], false, none⟩), (7, .val ⟨(.nums 3 .i64 false x7), [.l 7 0], true, some (.l 7 0)⟩), (8, .val (V.s (.int .i64 x8)))] []
noncomputable def spec_ShaBlock.K2 : List Fr := framesAt [true, true, true, true, true, false, true, false] (bodyOf Try.f196 spec_ShaBlock.cuts) []
def spec_ShaBlock.N2 (x0z : Bool) (x0 : List Int) (x7 : List Int) (x9 : Int) : St := stOf 254 254 2 [(0, .val ⟨(.nums 3 .i64 x0z x0), [], false, none⟩), (7, .val ⟨(.nums 3 .i64 false x7), [.l 7 0], true, some (.l 7 0)⟩), (9, .val (V.s (.int .i64 x9)))] []
noncomputable def spec_ShaBlock.K3 : List Fr := framesAt [true, true, true, true, true, true, true, true, false, true, false] (bodyOf Try.f196 spec_ShaBlock.cuts) []
def spec_ShaBlock.N3 (x0z : Bool) (x0 : List Int) (x7 : List Int) (x14z : Bool) (x14 : List Int) (x15z : Bool) (x15 : List Int) (x16 : Int) : St := stOf 254 254 2 [(0, .val ⟨(.nums 3 .i64 x0z x0), [], false, none⟩), (7, .val ⟨(.nums 3 .i64 false x7), [.l 7 0], true, some (.l 7 0)⟩), (14, .val ⟨(.nums 3 .i64 x14z x14), [.l 14 0], true, some (.l 14 0)⟩), (15, .val ⟨(.nums 3 .i64 x15z x15), [.l 15 0], true, some (.l 15 0)⟩), (16, .val (V.s (.int .i64 x16)))] []
noncomputable def spec_ShaBlock.K4 : List Fr := framesAt [true, true, true, true, true, true, true, true, true, true, false, true, false] (bodyOf Try.f196 spec_ShaBlock.cuts) []
def spec_ShaBlock.N4 (x0z : Bool) (x0 : List Int) (x15z : Bool) (x15 : List Int) (x21 : List Int) (x235 : Int) (x236 : Int) : St := stOf 254 254 2 [(0, .val ⟨(.nums 3 .i64 x0z x0), [], false, none⟩), (15, .val ⟨(.nums 3 .i64 x15z x15), [.l 15 0], true, some (.l 15 0)⟩), (21, .val ⟨(.nums 3 .i64 false x21), [.l 21 0], true, some (.l 21 0)⟩), (235, .val (V.s (.int .i64 x235))), (236, .val (V.s (.int .i64 x236)))] []
theorem spec_ShaBlock.s (k : Nat) (a0z : Bool) (a0 : List Int) (a1z : Bool) (a1 : List Int) : answer Try.prog spec_ShaBlock.Cs 100000 spec_ShaBlock.cuts [] Try.f196 (k + 1) [.v (.nums 3 .i64 a0z a0), .v (.nums 5 .u8 a1z a1)] = spec_ShaBlock.b (fun r => some (spec_ShaBlock.enc r)) (fun x0z x0 x1z x1 x31z x31 x32 x33 => rounds Try.prog spec_ShaBlock.Cs (finish Try.prog [] Try.f196 [.v (.nums 3 .i64 a0z a0), .v (.nums 5 .u8 a1z a1)]) 100000 k spec_ShaBlock.K0 (spec_ShaBlock.N0 x0z x0 x1z x1 x31z x31 x32 x33)) (fun x0z x0 x1z x1 x7 x8 => rounds Try.prog spec_ShaBlock.Cs (finish Try.prog [] Try.f196 [.v (.nums 3 .i64 a0z a0), .v (.nums 5 .u8 a1z a1)]) 100000 k spec_ShaBlock.K1 (spec_ShaBlock.N1 x0z x0 x1z x1 x7 x8)) (fun x0z x0 x7 x9 => rounds Try.prog spec_ShaBlock.Cs (finish Try.prog [] Try.f196 [.v (.nums 3 .i64 a0z a0), .v (.nums 5 .u8 a1z a1)]) 100000 k spec_ShaBlock.K2 (spec_ShaBlock.N2 x0z x0 x7 x9)) (fun x0z x0 x7 x14z x14 x15z x15 x16 => rounds Try.prog spec_ShaBlock.Cs (finish Try.prog [] Try.f196 [.v (.nums 3 .i64 a0z a0), .v (.nums 5 .u8 a1z a1)]) 100000 k spec_ShaBlock.K3 (spec_ShaBlock.N3 x0z x0 x7 x14z x14 x15z x15 x16)) (fun x0z x0 x15z x15 x21 x235 x236 => rounds Try.prog spec_ShaBlock.Cs (finish Try.prog [] Try.f196 [.v (.nums 3 .i64 a0z a0), .v (.nums 5 .u8 a1z a1)]) 100000 k spec_ShaBlock.K4 (spec_ShaBlock.N4 x0z x0 x15z x15 x21 x235 x236)) k a0z a0 a1z a1 := by kernel_rfl
theorem spec_ShaBlock.s0 (k : Nat) (G : List Fr → St → Option Res) (a0z : Bool) (a0 : List Int) (a1z : Bool) (a1 : List Int) (yx0z : Bool) (yx0 : List Int) (yx1z : Bool) (yx1 : List Int) (yx31z : Bool) (yx31 : List Int) (yx32 : Int) (yx33 : Int) : resume Try.prog (spec_ShaBlock.Cs k) G (finish Try.prog [] Try.f196 [.v (.nums 3 .i64 a0z a0), .v (.nums 5 .u8 a1z a1)]) 100000 spec_ShaBlock.K0 (spec_ShaBlock.N0 yx0z yx0 yx1z yx1 yx31z yx31 yx32 yx33) = spec_ShaBlock.l0b (fun r => some (spec_ShaBlock.enc r)) (fun x0z x0 x1z x1 x31z x31 x32 x33 => G spec_ShaBlock.K0 (spec_ShaBlock.N0 x0z x0 x1z x1 x31z x31 x32 x33)) (fun x0z x0 x1z x1 x7 x8 => G spec_ShaBlock.K1 (spec_ShaBlock.N1 x0z x0 x1z x1 x7 x8)) (fun x0z x0 x7 x9 => G spec_ShaBlock.K2 (spec_ShaBlock.N2 x0z x0 x7 x9)) (fun x0z x0 x7 x14z x14 x15z x15 x16 => G spec_ShaBlock.K3 (spec_ShaBlock.N3 x0z x0 x7 x14z x14 x15z x15 x16)) (fun x0z x0 x15z x15 x21 x235 x236 => G spec_ShaBlock.K4 (spec_ShaBlock.N4 x0z x0 x15z x15 x21 x235 x236)) k yx0z yx0 yx1z yx1 yx31z yx31 yx32 yx33 := by kernel_rfl
theorem spec_ShaBlock.s1 (k : Nat) (G : List Fr → St → Option Res) (a0z : Bool) (a0 : List Int) (a1z : Bool) (a1 : List Int) (yx0z : Bool) (yx0 : List Int) (yx1z : Bool) (yx1 : List Int) (yx7 : List Int) (yx8 : Int) : resume Try.prog (spec_ShaBlock.Cs k) G (finish Try.prog [] Try.f196 [.v (.nums 3 .i64 a0z a0), .v (.nums 5 .u8 a1z a1)]) 100000 spec_ShaBlock.K1 (spec_ShaBlock.N1 yx0z yx0 yx1z yx1 yx7 yx8) = spec_ShaBlock.l1b (fun r => some (spec_ShaBlock.enc r)) (fun x0z x0 x1z x1 x31z x31 x32 x33 => G spec_ShaBlock.K0 (spec_ShaBlock.N0 x0z x0 x1z x1 x31z x31 x32 x33)) (fun x0z x0 x1z x1 x7 x8 => G spec_ShaBlock.K1 (spec_ShaBlock.N1 x0z x0 x1z x1 x7 x8)) (fun x0z x0 x7 x9 => G spec_ShaBlock.K2 (spec_ShaBlock.N2 x0z x0 x7 x9)) (fun x0z x0 x7 x14z x14 x15z x15 x16 => G spec_ShaBlock.K3 (spec_ShaBlock.N3 x0z x0 x7 x14z x14 x15z x15 x16)) (fun x0z x0 x15z x15 x21 x235 x236 => G spec_ShaBlock.K4 (spec_ShaBlock.N4 x0z x0 x15z x15 x21 x235 x236)) k yx0z yx0 yx1z yx1 yx7 yx8 := by kernel_rfl
theorem spec_ShaBlock.s2 (k : Nat) (G : List Fr → St → Option Res) (a0z : Bool) (a0 : List Int) (a1z : Bool) (a1 : List Int) (yx0z : Bool) (yx0 : List Int) (yx7 : List Int) (yx9 : Int) : resume Try.prog (spec_ShaBlock.Cs k) G (finish Try.prog [] Try.f196 [.v (.nums 3 .i64 a0z a0), .v (.nums 5 .u8 a1z a1)]) 100000 spec_ShaBlock.K2 (spec_ShaBlock.N2 yx0z yx0 yx7 yx9) = spec_ShaBlock.l2b (fun r => some (spec_ShaBlock.enc r)) (fun x0z x0 x1z x1 x31z x31 x32 x33 => G spec_ShaBlock.K0 (spec_ShaBlock.N0 x0z x0 x1z x1 x31z x31 x32 x33)) (fun x0z x0 x1z x1 x7 x8 => G spec_ShaBlock.K1 (spec_ShaBlock.N1 x0z x0 x1z x1 x7 x8)) (fun x0z x0 x7 x9 => G spec_ShaBlock.K2 (spec_ShaBlock.N2 x0z x0 x7 x9)) (fun x0z x0 x7 x14z x14 x15z x15 x16 => G spec_ShaBlock.K3 (spec_ShaBlock.N3 x0z x0 x7 x14z x14 x15z x15 x16)) (fun x0z x0 x15z x15 x21 x235 x236 => G spec_ShaBlock.K4 (spec_ShaBlock.N4 x0z x0 x15z x15 x21 x235 x236)) k yx0z yx0 yx7 yx9 := by kernel_rfl
theorem spec_ShaBlock.s3 (k : Nat) (G : List Fr → St → Option Res) (a0z : Bool) (a0 : List Int) (a1z : Bool) (a1 : List Int) (yx0z : Bool) (yx0 : List Int) (yx7 : List Int) (yx14z : Bool) (yx14 : List Int) (yx15z : Bool) (yx15 : List Int) (yx16 : Int) : resume Try.prog (spec_ShaBlock.Cs k) G (finish Try.prog [] Try.f196 [.v (.nums 3 .i64 a0z a0), .v (.nums 5 .u8 a1z a1)]) 100000 spec_ShaBlock.K3 (spec_ShaBlock.N3 yx0z yx0 yx7 yx14z yx14 yx15z yx15 yx16) = spec_ShaBlock.l3b (fun r => some (spec_ShaBlock.enc r)) (fun x0z x0 x1z x1 x31z x31 x32 x33 => G spec_ShaBlock.K0 (spec_ShaBlock.N0 x0z x0 x1z x1 x31z x31 x32 x33)) (fun x0z x0 x1z x1 x7 x8 => G spec_ShaBlock.K1 (spec_ShaBlock.N1 x0z x0 x1z x1 x7 x8)) (fun x0z x0 x7 x9 => G spec_ShaBlock.K2 (spec_ShaBlock.N2 x0z x0 x7 x9)) (fun x0z x0 x7 x14z x14 x15z x15 x16 => G spec_ShaBlock.K3 (spec_ShaBlock.N3 x0z x0 x7 x14z x14 x15z x15 x16)) (fun x0z x0 x15z x15 x21 x235 x236 => G spec_ShaBlock.K4 (spec_ShaBlock.N4 x0z x0 x15z x15 x21 x235 x236)) k yx0z yx0 yx7 yx14z yx14 yx15z yx15 yx16 := by kernel_rfl
theorem spec_ShaBlock.s4 (k : Nat) (G : List Fr → St → Option Res) (a0z : Bool) (a0 : List Int) (a1z : Bool) (a1 : List Int) (yx0z : Bool) (yx0 : List Int) (yx15z : Bool) (yx15 : List Int) (yx21 : List Int) (yx235 : Int) (yx236 : Int) : resume Try.prog (spec_ShaBlock.Cs k) G (finish Try.prog [] Try.f196 [.v (.nums 3 .i64 a0z a0), .v (.nums 5 .u8 a1z a1)]) 100000 spec_ShaBlock.K4 (spec_ShaBlock.N4 yx0z yx0 yx15z yx15 yx21 yx235 yx236) = spec_ShaBlock.l4b (fun r => some (spec_ShaBlock.enc r)) (fun x0z x0 x1z x1 x31z x31 x32 x33 => G spec_ShaBlock.K0 (spec_ShaBlock.N0 x0z x0 x1z x1 x31z x31 x32 x33)) (fun x0z x0 x1z x1 x7 x8 => G spec_ShaBlock.K1 (spec_ShaBlock.N1 x0z x0 x1z x1 x7 x8)) (fun x0z x0 x7 x9 => G spec_ShaBlock.K2 (spec_ShaBlock.N2 x0z x0 x7 x9)) (fun x0z x0 x7 x14z x14 x15z x15 x16 => G spec_ShaBlock.K3 (spec_ShaBlock.N3 x0z x0 x7 x14z x14 x15z x15 x16)) (fun x0z x0 x15z x15 x21 x235 x236 => G spec_ShaBlock.K4 (spec_ShaBlock.N4 x0z x0 x15z x15 x21 x235 x236)) k yx0z yx0 yx15z yx15 yx21 yx235 yx236 := by kernel_rfl
theorem spec_ShaBlock.b_nat {R R' : Type} (e : R → R') (ret : Bool × List Int → Option R) (j0 : Bool → (List Int) → Bool → (List Int) → Bool → (List Int) → Int → Int → Option R) (j1 : Bool → (List Int) → Bool → (List Int) → (List Int) → Int → Option R) (j2 : Bool → (List Int) → (List Int) → Int → Option R) (j3 : Bool → (List Int) → (List Int) → Bool → (List Int) → Bool → (List Int) → Int → Option R) (j4 : Bool → (List Int) → Bool → (List Int) → (List Int) → Int → Int → Option R) (k : Nat) (a0z : Bool) (a0 : List Int) (a1z : Bool) (a1 : List Int) : spec_ShaBlock.b (fun r => (ret r).map e) (fun x0z x0 x1z x1 x31z x31 x32 x33 => (j0 x0z x0 x1z x1 x31z x31 x32 x33).map e) (fun x0z x0 x1z x1 x7 x8 => (j1 x0z x0 x1z x1 x7 x8).map e) (fun x0z x0 x7 x9 => (j2 x0z x0 x7 x9).map e) (fun x0z x0 x7 x14z x14 x15z x15 x16 => (j3 x0z x0 x7 x14z x14 x15z x15 x16).map e) (fun x0z x0 x15z x15 x21 x235 x236 => (j4 x0z x0 x15z x15 x21 x235 x236).map e) k a0z a0 a1z a1 = (spec_ShaBlock.b ret j0 j1 j2 j3 j4 k a0z a0 a1z a1).map e := by
  unfold spec_ShaBlock.b
  repeat' first | with_reducible refine nat_cond ?_ ?_ | with_reducible refine nat_bind fun _ => ?_ | rfl
theorem spec_ShaBlock.l0b_nat {R R' : Type} (e : R → R') (ret : Bool × List Int → Option R) (j0 : Bool → (List Int) → Bool → (List Int) → Bool → (List Int) → Int → Int → Option R) (j1 : Bool → (List Int) → Bool → (List Int) → (List Int) → Int → Option R) (j2 : Bool → (List Int) → (List Int) → Int → Option R) (j3 : Bool → (List Int) → (List Int) → Bool → (List Int) → Bool → (List Int) → Int → Option R) (j4 : Bool → (List Int) → Bool → (List Int) → (List Int) → Int → Int → Option R) (k : Nat) (x0z : Bool) (x0 : List Int) (x1z : Bool) (x1 : List Int) (x31z : Bool) (x31 : List Int) (x32 : Int) (x33 : Int) : spec_ShaBlock.l0b (fun r => (ret r).map e) (fun x0z x0 x1z x1 x31z x31 x32 x33 => (j0 x0z x0 x1z x1 x31z x31 x32 x33).map e) (fun x0z x0 x1z x1 x7 x8 => (j1 x0z x0 x1z x1 x7 x8).map e) (fun x0z x0 x7 x9 => (j2 x0z x0 x7 x9).map e) (fun x0z x0 x7 x14z x14 x15z x15 x16 => (j3 x0z x0 x7 x14z x14 x15z x15 x16).map e) (fun x0z x0 x15z x15 x21 x235 x236 => (j4 x0z x0 x15z x15 x21 x235 x236).map e) k x0z x0 x1z x1 x31z x31 x32 x33 = (spec_ShaBlock.l0b ret j0 j1 j2 j3 j4 k x0z x0 x1z x1 x31z x31 x32 x33).map e := by
  unfold spec_ShaBlock.l0b
  repeat' first | with_reducible refine nat_cond ?_ ?_ | with_reducible refine nat_bind fun _ => ?_ | rfl
theorem spec_ShaBlock.l1b_nat {R R' : Type} (e : R → R') (ret : Bool × List Int → Option R) (j0 : Bool → (List Int) → Bool → (List Int) → Bool → (List Int) → Int → Int → Option R) (j1 : Bool → (List Int) → Bool → (List Int) → (List Int) → Int → Option R) (j2 : Bool → (List Int) → (List Int) → Int → Option R) (j3 : Bool → (List Int) → (List Int) → Bool → (List Int) → Bool → (List Int) → Int → Option R) (j4 : Bool → (List Int) → Bool → (List Int) → (List Int) → Int → Int → Option R) (k : Nat) (x0z : Bool) (x0 : List Int) (x1z : Bool) (x1 : List Int) (x7 : List Int) (x8 : Int) : spec_ShaBlock.l1b (fun r => (ret r).map e) (fun x0z x0 x1z x1 x31z x31 x32 x33 => (j0 x0z x0 x1z x1 x31z x31 x32 x33).map e) (fun x0z x0 x1z x1 x7 x8 => (j1 x0z x0 x1z x1 x7 x8).map e) (fun x0z x0 x7 x9 => (j2 x0z x0 x7 x9).map e) (fun x0z x0 x7 x14z x14 x15z x15 x16 => (j3 x0z x0 x7 x14z x14 x15z x15 x16).map e) (fun x0z x0 x15z x15 x21 x235 x236 => (j4 x0z x0 x15z x15 x21 x235 x236).map e) k x0z x0 x1z x1 x7 x8 = (spec_ShaBlock.l1b ret j0 j1 j2 j3 j4 k x0z x0 x1z x1 x7 x8).map e := by
  unfold spec_ShaBlock.l1b
  repeat' first | with_reducible refine nat_cond ?_ ?_ | with_reducible refine nat_bind fun _ => ?_ | rfl
theorem spec_ShaBlock.l2b_nat {R R' : Type} (e : R → R') (ret : Bool × List Int → Option R) (j0 : Bool → (List Int) → Bool → (List Int) → Bool → (List Int) → Int → Int → Option R) (j1 : Bool → (List Int) → Bool → (List Int) → (List Int) → Int → Option R) (j2 : Bool → (List Int) → (List Int) → Int → Option R) (j3 : Bool → (List Int) → (List Int) → Bool → (List Int) → Bool → (List Int) → Int → Option R) (j4 : Bool → (List Int) → Bool → (List Int) → (List Int) → Int → Int → Option R) (k : Nat) (x0z : Bool) (x0 : List Int) (x7 : List Int) (x9 : Int) : spec_ShaBlock.l2b (fun r => (ret r).map e) (fun x0z x0 x1z x1 x31z x31 x32 x33 => (j0 x0z x0 x1z x1 x31z x31 x32 x33).map e) (fun x0z x0 x1z x1 x7 x8 => (j1 x0z x0 x1z x1 x7 x8).map e) (fun x0z x0 x7 x9 => (j2 x0z x0 x7 x9).map e) (fun x0z x0 x7 x14z x14 x15z x15 x16 => (j3 x0z x0 x7 x14z x14 x15z x15 x16).map e) (fun x0z x0 x15z x15 x21 x235 x236 => (j4 x0z x0 x15z x15 x21 x235 x236).map e) k x0z x0 x7 x9 = (spec_ShaBlock.l2b ret j0 j1 j2 j3 j4 k x0z x0 x7 x9).map e := by
  unfold spec_ShaBlock.l2b
  repeat' first | with_reducible refine nat_cond ?_ ?_ | with_reducible refine nat_bind fun _ => ?_ | rfl
theorem spec_ShaBlock.l3b_nat {R R' : Type} (e : R → R') (ret : Bool × List Int → Option R) (j0 : Bool → (List Int) → Bool → (List Int) → Bool → (List Int) → Int → Int → Option R) (j1 : Bool → (List Int) → Bool → (List Int) → (List Int) → Int → Option R) (j2 : Bool → (List Int) → (List Int) → Int → Option R) (j3 : Bool → (List Int) → (List Int) → Bool → (List Int) → Bool → (List Int) → Int → Option R) (j4 : Bool → (List Int) → Bool → (List Int) → (List Int) → Int → Int → Option R) (k : Nat) (x0z : Bool) (x0 : List Int) (x7 : List Int) (x14z : Bool) (x14 : List Int) (x15z : Bool) (x15 : List Int) (x16 : Int) : spec_ShaBlock.l3b (fun r => (ret r).map e) (fun x0z x0 x1z x1 x31z x31 x32 x33 => (j0 x0z x0 x1z x1 x31z x31 x32 x33).map e) (fun x0z x0 x1z x1 x7 x8 => (j1 x0z x0 x1z x1 x7 x8).map e) (fun x0z x0 x7 x9 => (j2 x0z x0 x7 x9).map e) (fun x0z x0 x7 x14z x14 x15z x15 x16 => (j3 x0z x0 x7 x14z x14 x15z x15 x16).map e) (fun x0z x0 x15z x15 x21 x235 x236 => (j4 x0z x0 x15z x15 x21 x235 x236).map e) k x0z x0 x7 x14z x14 x15z x15 x16 = (spec_ShaBlock.l3b ret j0 j1 j2 j3 j4 k x0z x0 x7 x14z x14 x15z x15 x16).map e := by
  unfold spec_ShaBlock.l3b
  repeat' first | with_reducible refine nat_cond ?_ ?_ | with_reducible refine nat_bind fun _ => ?_ | rfl
theorem spec_ShaBlock.l4b_nat {R R' : Type} (e : R → R') (ret : Bool × List Int → Option R) (j0 : Bool → (List Int) → Bool → (List Int) → Bool → (List Int) → Int → Int → Option R) (j1 : Bool → (List Int) → Bool → (List Int) → (List Int) → Int → Option R) (j2 : Bool → (List Int) → (List Int) → Int → Option R) (j3 : Bool → (List Int) → (List Int) → Bool → (List Int) → Bool → (List Int) → Int → Option R) (j4 : Bool → (List Int) → Bool → (List Int) → (List Int) → Int → Int → Option R) (k : Nat) (x0z : Bool) (x0 : List Int) (x15z : Bool) (x15 : List Int) (x21 : List Int) (x235 : Int) (x236 : Int) : spec_ShaBlock.l4b (fun r => (ret r).map e) (fun x0z x0 x1z x1 x31z x31 x32 x33 => (j0 x0z x0 x1z x1 x31z x31 x32 x33).map e) (fun x0z x0 x1z x1 x7 x8 => (j1 x0z x0 x1z x1 x7 x8).map e) (fun x0z x0 x7 x9 => (j2 x0z x0 x7 x9).map e) (fun x0z x0 x7 x14z x14 x15z x15 x16 => (j3 x0z x0 x7 x14z x14 x15z x15 x16).map e) (fun x0z x0 x15z x15 x21 x235 x236 => (j4 x0z x0 x15z x15 x21 x235 x236).map e) k x0z x0 x15z x15 x21 x235 x236 = (spec_ShaBlock.l4b ret j0 j1 j2 j3 j4 k x0z x0 x15z x15 x21 x235 x236).map e := by
  unfold spec_ShaBlock.l4b
  repeat' first | with_reducible refine nat_cond ?_ ?_ | with_reducible refine nat_bind fun _ => ?_ | rfl
theorem spec_ShaBlock.rounds_eq (a0z : Bool) (a0 : List Int) (a1z : Bool) (a1 : List Int) : ∀ k, (∀ (x0z : Bool) (x0 : List Int) (x1z : Bool) (x1 : List Int) (x31z : Bool) (x31 : List Int) (x32 : Int) (x33 : Int), rounds Try.prog spec_ShaBlock.Cs (finish Try.prog [] Try.f196 [.v (.nums 3 .i64 a0z a0), .v (.nums 5 .u8 a1z a1)]) 100000 k spec_ShaBlock.K0 (spec_ShaBlock.N0 x0z x0 x1z x1 x31z x31 x32 x33) = (spec_ShaBlock.l0 k x0z x0 x1z x1 x31z x31 x32 x33).map spec_ShaBlock.enc) ∧ (∀ (x0z : Bool) (x0 : List Int) (x1z : Bool) (x1 : List Int) (x7 : List Int) (x8 : Int), rounds Try.prog spec_ShaBlock.Cs (finish Try.prog [] Try.f196 [.v (.nums 3 .i64 a0z a0), .v (.nums 5 .u8 a1z a1)]) 100000 k spec_ShaBlock.K1 (spec_ShaBlock.N1 x0z x0 x1z x1 x7 x8) = (spec_ShaBlock.l1 k x0z x0 x1z x1 x7 x8).map spec_ShaBlock.enc) ∧ (∀ (x0z : Bool) (x0 : List Int) (x7 : List Int) (x9 : Int), rounds Try.prog spec_ShaBlock.Cs (finish Try.prog [] Try.f196 [.v (.nums 3 .i64 a0z a0), .v (.nums 5 .u8 a1z a1)]) 100000 k spec_ShaBlock.K2 (spec_ShaBlock.N2 x0z x0 x7 x9) = (spec_ShaBlock.l2 k x0z x0 x7 x9).map spec_ShaBlock.enc) ∧ (∀ (x0z : Bool) (x0 : List Int) (x7 : List Int) (x14z : Bool) (x14 : List Int) (x15z : Bool) (x15 : List Int) (x16 : Int), rounds Try.prog spec_ShaBlock.Cs (finish Try.prog [] Try.f196 [.v (.nums 3 .i64 a0z a0), .v (.nums 5 .u8 a1z a1)]) 100000 k spec_ShaBlock.K3 (spec_ShaBlock.N3 x0z x0 x7 x14z x14 x15z x15 x16) = (spec_ShaBlock.l3 k x0z x0 x7 x14z x14 x15z x15 x16).map spec_ShaBlock.enc) ∧ (∀ (x0z : Bool) (x0 : List Int) (x15z : Bool) (x15 : List Int) (x21 : List Int) (x235 : Int) (x236 : Int), rounds Try.prog spec_ShaBlock.Cs (finish Try.prog [] Try.f196 [.v (.nums 3 .i64 a0z a0), .v (.nums 5 .u8 a1z a1)]) 100000 k spec_ShaBlock.K4 (spec_ShaBlock.N4 x0z x0 x15z x15 x21 x235 x236) = (spec_ShaBlock.l4 k x0z x0 x15z x15 x21 x235 x236).map spec_ShaBlock.enc)
  | 0 => ⟨fun _ _ _ _ _ _ _ _ => rfl, fun _ _ _ _ _ _ => rfl, fun _ _ _ _ => rfl, fun _ _ _ _ _ _ _ _ => rfl, fun _ _ _ _ _ _ _ => rfl⟩
  | k + 1 => by
    have ih := spec_ShaBlock.rounds_eq a0z a0 a1z a1 k
    refine ⟨fun _ _ _ _ _ _ _ _ => ?_, fun _ _ _ _ _ _ => ?_, fun _ _ _ _ => ?_, fun _ _ _ _ _ _ _ _ => ?_, fun _ _ _ _ _ _ _ => ?_⟩
    · refine (spec_ShaBlock.s0 k _ a0z a0 a1z a1 _ _ _ _ _ _ _ _).trans (Eq.trans ?_ (spec_ShaBlock.l0b_nat spec_ShaBlock.enc some (spec_ShaBlock.l0 k) (spec_ShaBlock.l1 k) (spec_ShaBlock.l2 k) (spec_ShaBlock.l3 k) (spec_ShaBlock.l4 k) k _ _ _ _ _ _ _ _))
      simp only [ih.1, ih.2.1, ih.2.2.1, ih.2.2.2.1, ih.2.2.2.2, Option.map_some]
    · refine (spec_ShaBlock.s1 k _ a0z a0 a1z a1 _ _ _ _ _ _).trans (Eq.trans ?_ (spec_ShaBlock.l1b_nat spec_ShaBlock.enc some (spec_ShaBlock.l0 k) (spec_ShaBlock.l1 k) (spec_ShaBlock.l2 k) (spec_ShaBlock.l3 k) (spec_ShaBlock.l4 k) k _ _ _ _ _ _))
      simp only [ih.1, ih.2.1, ih.2.2.1, ih.2.2.2.1, ih.2.2.2.2, Option.map_some]
    · refine (spec_ShaBlock.s2 k _ a0z a0 a1z a1 _ _ _ _).trans (Eq.trans ?_ (spec_ShaBlock.l2b_nat spec_ShaBlock.enc some (spec_ShaBlock.l0 k) (spec_ShaBlock.l1 k) (spec_ShaBlock.l2 k) (spec_ShaBlock.l3 k) (spec_ShaBlock.l4 k) k _ _ _ _))
      simp only [ih.1, ih.2.1, ih.2.2.1, ih.2.2.2.1, ih.2.2.2.2, Option.map_some]
    · refine (spec_ShaBlock.s3 k _ a0z a0 a1z a1 _ _ _ _ _ _ _ _).trans (Eq.trans ?_ (spec_ShaBlock.l3b_nat spec_ShaBlock.enc some (spec_ShaBlock.l0 k) (spec_ShaBlock.l1 k) (spec_ShaBlock.l2 k) (spec_ShaBlock.l3 k) (spec_ShaBlock.l4 k) k _ _ _ _ _ _ _ _))
      simp only [ih.1, ih.2.1, ih.2.2.1, ih.2.2.2.1, ih.2.2.2.2, Option.map_some]
    · refine (spec_ShaBlock.s4 k _ a0z a0 a1z a1 _ _ _ _ _ _ _).trans (Eq.trans ?_ (spec_ShaBlock.l4b_nat spec_ShaBlock.enc some (spec_ShaBlock.l0 k) (spec_ShaBlock.l1 k) (spec_ShaBlock.l2 k) (spec_ShaBlock.l3 k) (spec_ShaBlock.l4 k) k _ _ _ _ _ _ _))
      simp only [ih.1, ih.2.1, ih.2.2.1, ih.2.2.2.1, ih.2.2.2.2, Option.map_some]
theorem spec_ShaBlock.eq (k : Nat) (a0z : Bool) (a0 : List Int) (a1z : Bool) (a1 : List Int) : answer Try.prog spec_ShaBlock.Cs 100000 spec_ShaBlock.cuts [] Try.f196 (k + 1) [.v (.nums 3 .i64 a0z a0), .v (.nums 5 .u8 a1z a1)] = (spec_ShaBlock.f (k + 1) a0z a0 a1z a1).map spec_ShaBlock.enc := by
  have ih := spec_ShaBlock.rounds_eq a0z a0 a1z a1 k
  refine (spec_ShaBlock.s k a0z a0 a1z a1).trans (Eq.trans ?_ (spec_ShaBlock.b_nat spec_ShaBlock.enc some (spec_ShaBlock.l0 k) (spec_ShaBlock.l1 k) (spec_ShaBlock.l2 k) (spec_ShaBlock.l3 k) (spec_ShaBlock.l4 k) k a0z a0 a1z a1))
  simp only [ih.1, ih.2.1, ih.2.2.1, ih.2.2.2.1, ih.2.2.2.2, Option.map_some]
theorem spec_ShaBlock.sound (k : Nat) : SoundF Try.prog 196 (fun a => (spec_ShaBlock.ans k a).val) := by
  refine sound_plain (fun args res h => ?_) (fun t n => rfl)
  unfold spec_ShaBlock.ans at h
  dsimp only at h
  split at h
  · cases k with
    | zero => cases h
    | succ k =>
      unfold Ans.val at h
      rw [← spec_ShaBlock.eq] at h
      exact answer_sound mixed Try.func196 _ _ _ (k + 1) (fun j _ => tab_sound (tab_cons (spec_l04Word.sound j) (tab_cons (spec_l04Turn.sound j) (tab_cons (spec_l04K.sound j) (tab_nil))))) _ _ h
  · exact (Ans.no_val h).elim

/-! loop.example/g00790/spec.Sha -/
def spec_Sha.b {R : Type} (ret : Bool × List Int → Option R) (j0 : Bool → (List Int) → Bool → (List Int) → Int → Option R) (j1 : (List Int) → Bool → (List Int) → Int → Int → Option R) (k : Nat) (a0z : Bool) (a0 : List Int) : Option R :=
  (spec_ShaInit.f k).bind fun t0 => (spec_ShaPad.f k a0z a0).bind fun t1 => j0 t0.1 t0.2 t1.1 t1.2 0
def spec_Sha.l0b {R : Type} (ret : Bool × List Int → Option R) (j0 : Bool → (List Int) → Bool → (List Int) → Int → Option R) (j1 : (List Int) → Bool → (List Int) → Int → Int → Option R) (k : Nat) (x3z : Bool) (x3 : List Int) (x4z : Bool) (x4 : List Int) (x5 : Int) : Option R :=
  cond (decide (x5 < ((x4).length : Int))) (cond (decide ((0 : Int) ≤ (RowKit.wrap64 (x5 + 64)))) (cond (decide ((RowKit.wrap64 (x5 + 64)) ≤ ((x4).length : Int))) (cond (decide ((0 : Int) ≤ x5)) (cond (decide (x5 ≤ (RowKit.wrap64 (x5 + 64)))) ((spec_ShaBlock.f k x3z x3 x4z (((x4).take ((RowKit.wrap64 (x5 + 64))).toNat).drop (x5).toNat)).bind fun t0 => j0 t0.1 t0.2 x4z x4 (RowKit.wrap64 (x5 + 64))) (none)) (none)) (none)) (none)) (j1 ([] : List Int) x3z x3 ((x3).length : Int) 0)
def spec_Sha.l1b {R : Type} (ret : Bool × List Int → Option R) (j0 : Bool → (List Int) → Bool → (List Int) → Int → Option R) (j1 : (List Int) → Bool → (List Int) → Int → Int → Option R) (k : Nat) (x6 : List Int) (x26z : Bool) (x26 : List Int) (x27 : Int) (x28 : Int) : Option R :=
  cond (decide (x28 < x27)) (cond (decide ((0 : Int) ≤ x28)) (cond (decide (x28 < ((x26).length : Int))) (cond (decide ((x6).length + 4 < 140737488355328)) (j1 (x6 ++ ([(((shrI .i64 (rdI x26 x28) 24)) % 256), (((shrI .i64 (rdI x26 x28) 16)) % 256), (((shrI .i64 (rdI x26 x28) 8)) % 256), (((rdI x26 x28)) % 256)] : List Int)) x26z x26 x27 (RowKit.wrap64 (x28 + 1))) (none)) (none)) (none)) (ret (false, x6))
mutual
def spec_Sha.l0 : Nat → Bool → (List Int) → Bool → (List Int) → Int → Option (Bool × List Int)
  | 0, _, _, _, _, _ => none
  | k + 1, x3z, x3, x4z, x4, x5 => spec_Sha.l0b some (spec_Sha.l0 k) (spec_Sha.l1 k) k x3z x3 x4z x4 x5
def spec_Sha.l1 : Nat → (List Int) → Bool → (List Int) → Int → Int → Option (Bool × List Int)
  | 0, _, _, _, _, _ => none
  | k + 1, x6, x26z, x26, x27, x28 => spec_Sha.l1b some (spec_Sha.l0 k) (spec_Sha.l1 k) k x6 x26z x26 x27 x28
end
def spec_Sha.f : Nat → Bool → (List Int) → Option (Bool × List Int)
  | 0, _, _ => none
  | k + 1, a0z, a0 => spec_Sha.b some (spec_Sha.l0 k) (spec_Sha.l1 k) k a0z a0
def spec_Sha.enc (r : Bool × List Int) : Res := ⟨[.vals false [((.nums 5 .u8 r.1 r.2), true)]], []⟩
def spec_Sha.ans (k : Nat) : List Arg → Ans
  | [.v (.nums 5 .u8 a0z a0)] => ⟨spec_Sha.f k a0z a0, spec_Sha.enc⟩
  | _ => Ans.no
def spec_Sha.Cs (k : Nat) : CallSem := tab [(194, spec_ShaInit.ans k), (195, spec_ShaPad.ans k), (196, spec_ShaBlock.ans k)]
def spec_Sha.cuts : List (Nat × Keep) := [(122, ⟨[(3, none), (4, none), (5, some [])], []⟩), (506, ⟨[(6, none), (26, none), (27, some []), (28, some [])], []⟩)]
noncomputable def spec_Sha.K0 : List Fr := framesAt [true, true, true, false, true, false] (bodyOf Try.f157 spec_Sha.cuts) []
def spec_Sha.N0 (x3z : Bool) (x3 : List Int) (x4z : Bool) (x4 : List Int) (x5 : Int) : St := stOf 48 48 1 [(3, .val ⟨(.nums 3 .i64 x3z x3), [.l 3 0], true, some (.l 3 0)⟩), (4, .val ⟨(.nums 5 .u8 x4z x4), [.l 4 0], true, some (.l 4 0)⟩), (5, .val (V.s (.int .i64 x5)))] []
noncomputable def spec_Sha.K1 : List Fr := framesAt [true, true, true, true, true, false, true, false] (bodyOf Try.f157 spec_Sha.cuts) []
def spec_Sha.N1 (x6 : List Int) (x26z : Bool) (x26 : List Int) (x27 : Int) (x28 : Int) : St := stOf 48 48 1 [(6, .val ⟨(.nums 5 .u8 false x6), [.l 6 0], true, some (.l 6 0)⟩), (26, .val ⟨(.nums 3 .i64 x26z x26), [.l 26 0], true, some (.l 26 0)⟩), (27, .val (V.s (.int .i64 x27))), (28, .val (V.s (.int .i64 x28)))] []
theorem spec_Sha.s (k : Nat) (a0z : Bool) (a0 : List Int) : answer Try.prog spec_Sha.Cs 100000 spec_Sha.cuts [] Try.f157 (k + 1) [.v (.nums 5 .u8 a0z a0)] = spec_Sha.b (fun r => some (spec_Sha.enc r)) (fun x3z x3 x4z x4 x5 => rounds Try.prog spec_Sha.Cs (finish Try.prog [] Try.f157 [.v (.nums 5 .u8 a0z a0)]) 100000 k spec_Sha.K0 (spec_Sha.N0 x3z x3 x4z x4 x5)) (fun x6 x26z x26 x27 x28 => rounds Try.prog spec_Sha.Cs (finish Try.prog [] Try.f157 [.v (.nums 5 .u8 a0z a0)]) 100000 k spec_Sha.K1 (spec_Sha.N1 x6 x26z x26 x27 x28)) k a0z a0 := by kernel_rfl
theorem spec_Sha.s0 (k : Nat) (G : List Fr → St → Option Res) (a0z : Bool) (a0 : List Int) (yx3z : Bool) (yx3 : List Int) (yx4z : Bool) (yx4 : List Int) (yx5 : Int) : resume Try.prog (spec_Sha.Cs k) G (finish Try.prog [] Try.f157 [.v (.nums 5 .u8 a0z a0)]) 100000 spec_Sha.K0 (spec_Sha.N0 yx3z yx3 yx4z yx4 yx5) = spec_Sha.l0b (fun r => some (spec_Sha.enc r)) (fun x3z x3 x4z x4 x5 => G spec_Sha.K0 (spec_Sha.N0 x3z x3 x4z x4 x5)) (fun x6 x26z x26 x27 x28 => G spec_Sha.K1 (spec_Sha.N1 x6 x26z x26 x27 x28)) k yx3z yx3 yx4z yx4 yx5 := by kernel_rfl
theorem spec_Sha.s1 (k : Nat) (G : List Fr → St → Option Res) (a0z : Bool) (a0 : List Int) (yx6 : List Int) (yx26z : Bool) (yx26 : List Int) (yx27 : Int) (yx28 : Int) : resume Try.prog (spec_Sha.Cs k) G (finish Try.prog [] Try.f157 [.v (.nums 5 .u8 a0z a0)]) 100000 spec_Sha.K1 (spec_Sha.N1 yx6 yx26z yx26 yx27 yx28) = spec_Sha.l1b (fun r => some (spec_Sha.enc r)) (fun x3z x3 x4z x4 x5 => G spec_Sha.K0 (spec_Sha.N0 x3z x3 x4z x4 x5)) (fun x6 x26z x26 x27 x28 => G spec_Sha.K1 (spec_Sha.N1 x6 x26z x26 x27 x28)) k yx6 yx26z yx26 yx27 yx28 := by kernel_rfl
theorem spec_Sha.b_nat {R R' : Type} (e : R → R') (ret : Bool × List Int → Option R) (j0 : Bool → (List Int) → Bool → (List Int) → Int → Option R) (j1 : (List Int) → Bool → (List Int) → Int → Int → Option R) (k : Nat) (a0z : Bool) (a0 : List Int) : spec_Sha.b (fun r => (ret r).map e) (fun x3z x3 x4z x4 x5 => (j0 x3z x3 x4z x4 x5).map e) (fun x6 x26z x26 x27 x28 => (j1 x6 x26z x26 x27 x28).map e) k a0z a0 = (spec_Sha.b ret j0 j1 k a0z a0).map e := by
  unfold spec_Sha.b
  repeat' first | with_reducible refine nat_cond ?_ ?_ | with_reducible refine nat_bind fun _ => ?_ | rfl
theorem spec_Sha.l0b_nat {R R' : Type} (e : R → R') (ret : Bool × List Int → Option R) (j0 : Bool → (List Int) → Bool → (List Int) → Int → Option R) (j1 : (List Int) → Bool → (List Int) → Int → Int → Option R) (k : Nat) (x3z : Bool) (x3 : List Int) (x4z : Bool) (x4 : List Int) (x5 : Int) : spec_Sha.l0b (fun r => (ret r).map e) (fun x3z x3 x4z x4 x5 => (j0 x3z x3 x4z x4 x5).map e) (fun x6 x26z x26 x27 x28 => (j1 x6 x26z x26 x27 x28).map e) k x3z x3 x4z x4 x5 = (spec_Sha.l0b ret j0 j1 k x3z x3 x4z x4 x5).map e := by
  unfold spec_Sha.l0b
  repeat' first | with_reducible refine nat_cond ?_ ?_ | with_reducible refine nat_bind fun _ => ?_ | rfl
theorem spec_Sha.l1b_nat {R R' : Type} (e : R → R') (ret : Bool × List Int → Option R) (j0 : Bool → (List Int) → Bool → (List Int) → Int → Option R) (j1 : (List Int) → Bool → (List Int) → Int → Int → Option R) (k : Nat) (x6 : List Int) (x26z : Bool) (x26 : List Int) (x27 : Int) (x28 : Int) : spec_Sha.l1b (fun r => (ret r).map e) (fun x3z x3 x4z x4 x5 => (j0 x3z x3 x4z x4 x5).map e) (fun x6 x26z x26 x27 x28 => (j1 x6 x26z x26 x27 x28).map e) k x6 x26z x26 x27 x28 = (spec_Sha.l1b ret j0 j1 k x6 x26z x26 x27 x28).map e := by
  unfold spec_Sha.l1b
  repeat' first | with_reducible refine nat_cond ?_ ?_ | with_reducible refine nat_bind fun _ => ?_ | rfl
theorem spec_Sha.rounds_eq (a0z : Bool) (a0 : List Int) : ∀ k, (∀ (x3z : Bool) (x3 : List Int) (x4z : Bool) (x4 : List Int) (x5 : Int), rounds Try.prog spec_Sha.Cs (finish Try.prog [] Try.f157 [.v (.nums 5 .u8 a0z a0)]) 100000 k spec_Sha.K0 (spec_Sha.N0 x3z x3 x4z x4 x5) = (spec_Sha.l0 k x3z x3 x4z x4 x5).map spec_Sha.enc) ∧ (∀ (x6 : List Int) (x26z : Bool) (x26 : List Int) (x27 : Int) (x28 : Int), rounds Try.prog spec_Sha.Cs (finish Try.prog [] Try.f157 [.v (.nums 5 .u8 a0z a0)]) 100000 k spec_Sha.K1 (spec_Sha.N1 x6 x26z x26 x27 x28) = (spec_Sha.l1 k x6 x26z x26 x27 x28).map spec_Sha.enc)
  | 0 => ⟨fun _ _ _ _ _ => rfl, fun _ _ _ _ _ => rfl⟩
  | k + 1 => by
    have ih := spec_Sha.rounds_eq a0z a0 k
    refine ⟨fun _ _ _ _ _ => ?_, fun _ _ _ _ _ => ?_⟩
    · refine (spec_Sha.s0 k _ a0z a0 _ _ _ _ _).trans (Eq.trans ?_ (spec_Sha.l0b_nat spec_Sha.enc some (spec_Sha.l0 k) (spec_Sha.l1 k) k _ _ _ _ _))
      simp only [ih.1, ih.2, Option.map_some]
    · refine (spec_Sha.s1 k _ a0z a0 _ _ _ _ _).trans (Eq.trans ?_ (spec_Sha.l1b_nat spec_Sha.enc some (spec_Sha.l0 k) (spec_Sha.l1 k) k _ _ _ _ _))
      simp only [ih.1, ih.2, Option.map_some]
theorem spec_Sha.eq (k : Nat) (a0z : Bool) (a0 : List Int) : answer Try.prog spec_Sha.Cs 100000 spec_Sha.cuts [] Try.f157 (k + 1) [.v (.nums 5 .u8 a0z a0)] = (spec_Sha.f (k + 1) a0z a0).map spec_Sha.enc := by
  have ih := spec_Sha.rounds_eq a0z a0 k
  refine (spec_Sha.s k a0z a0).trans (Eq.trans ?_ (spec_Sha.b_nat spec_Sha.enc some (spec_Sha.l0 k) (spec_Sha.l1 k) k a0z a0))
  simp only [ih.1, ih.2, Option.map_some]
theorem spec_Sha.sound (k : Nat) : SoundF Try.prog 157 (fun a => (spec_Sha.ans k a).val) := by
  refine sound_plain (fun args res h => ?_) (fun t n => rfl)
  unfold spec_Sha.ans at h
  dsimp only at h
  split at h
  · cases k with
    | zero => cases h
    | succ k =>
      unfold Ans.val at h
      rw [← spec_Sha.eq] at h
      exact answer_sound mixed Try.func157 _ _ _ (k + 1) (fun j _ => tab_sound (tab_cons (spec_ShaInit.sound j) (tab_cons (spec_ShaPad.sound j) (tab_cons (spec_ShaBlock.sound j) (tab_nil))))) _ _ h
  · exact (Ans.no_val h).elim

/-! loop.example/g00790/spec.MacKey -/
def spec_MacKey.b {R : Type} (ret : Bool × List Int → Option R) (j0 : Bool → (List Int) → Option R) (k : Nat) (a0z : Bool) (a0 : List Int) : Option R :=
  (spec_l01Copy.f k a0z a0).bind fun t0 => cond (decide (((t0.2).length : Int) > 64)) ((spec_Sha.f k t0.1 t0.2).bind fun t1 => j0 t1.1 t1.2) (j0 t0.1 t0.2)
def spec_MacKey.l0b {R : Type} (ret : Bool × List Int → Option R) (j0 : Bool → (List Int) → Option R) (k : Nat) (x3z : Bool) (x3 : List Int) : Option R :=
  cond (decide (((x3).length : Int) < 64)) (cond (decide ((x3).length + 1 < 140737488355328)) (j0 false (x3 ++ ([0] : List Int))) (none)) (ret (x3z, x3))
def spec_MacKey.l0 : Nat → Bool → (List Int) → Option (Bool × List Int)
  | 0, _, _ => none
  | k + 1, x3z, x3 => spec_MacKey.l0b some (spec_MacKey.l0 k) k x3z x3
def spec_MacKey.f : Nat → Bool → (List Int) → Option (Bool × List Int)
  | 0, _, _ => none
  | k + 1, a0z, a0 => spec_MacKey.b some (spec_MacKey.l0 k) k a0z a0
def spec_MacKey.enc (r : Bool × List Int) : Res := ⟨[.vals false [((.nums 5 .u8 r.1 r.2), true)]], []⟩
def spec_MacKey.ans (k : Nat) : List Arg → Ans
  | [.v (.nums 5 .u8 a0z a0)] => ⟨spec_MacKey.f k a0z a0, spec_MacKey.enc⟩
  | _ => Ans.no
def spec_MacKey.Cs (k : Nat) : CallSem := tab [(130, spec_l01Copy.ans k), (157, spec_Sha.ans k)]
def spec_MacKey.cuts : List (Nat × Keep) := [(60, ⟨[(3, none)], []⟩)]
noncomputable def spec_MacKey.K0 : List Fr := framesAt [true, true, true, false, false] (bodyOf Try.f183 spec_MacKey.cuts) []
def spec_MacKey.N0 (x3z : Bool) (x3 : List Int) : St := stOf 18 18 1 [(3, .val ⟨(.nums 5 .u8 x3z x3), [.l 3 0], true, some (.l 3 0)⟩)] []
theorem spec_MacKey.s (k : Nat) (a0z : Bool) (a0 : List Int) : answer Try.prog spec_MacKey.Cs 100000 spec_MacKey.cuts [] Try.f183 (k + 1) [.v (.nums 5 .u8 a0z a0)] = spec_MacKey.b (fun r => some (spec_MacKey.enc r)) (fun x3z x3 => rounds Try.prog spec_MacKey.Cs (finish Try.prog [] Try.f183 [.v (.nums 5 .u8 a0z a0)]) 100000 k spec_MacKey.K0 (spec_MacKey.N0 x3z x3)) k a0z a0 := by kernel_rfl
theorem spec_MacKey.s0 (k : Nat) (G : List Fr → St → Option Res) (a0z : Bool) (a0 : List Int) (yx3z : Bool) (yx3 : List Int) : resume Try.prog (spec_MacKey.Cs k) G (finish Try.prog [] Try.f183 [.v (.nums 5 .u8 a0z a0)]) 100000 spec_MacKey.K0 (spec_MacKey.N0 yx3z yx3) = spec_MacKey.l0b (fun r => some (spec_MacKey.enc r)) (fun x3z x3 => G spec_MacKey.K0 (spec_MacKey.N0 x3z x3)) k yx3z yx3 := by kernel_rfl
theorem spec_MacKey.b_nat {R R' : Type} (e : R → R') (ret : Bool × List Int → Option R) (j0 : Bool → (List Int) → Option R) (k : Nat) (a0z : Bool) (a0 : List Int) : spec_MacKey.b (fun r => (ret r).map e) (fun x3z x3 => (j0 x3z x3).map e) k a0z a0 = (spec_MacKey.b ret j0 k a0z a0).map e := by
  unfold spec_MacKey.b
  repeat' first | with_reducible refine nat_cond ?_ ?_ | with_reducible refine nat_bind fun _ => ?_ | rfl
theorem spec_MacKey.l0b_nat {R R' : Type} (e : R → R') (ret : Bool × List Int → Option R) (j0 : Bool → (List Int) → Option R) (k : Nat) (x3z : Bool) (x3 : List Int) : spec_MacKey.l0b (fun r => (ret r).map e) (fun x3z x3 => (j0 x3z x3).map e) k x3z x3 = (spec_MacKey.l0b ret j0 k x3z x3).map e := by
  unfold spec_MacKey.l0b
  repeat' first | with_reducible refine nat_cond ?_ ?_ | with_reducible refine nat_bind fun _ => ?_ | rfl
theorem spec_MacKey.rounds_eq (a0z : Bool) (a0 : List Int) : ∀ k, (∀ (x3z : Bool) (x3 : List Int), rounds Try.prog spec_MacKey.Cs (finish Try.prog [] Try.f183 [.v (.nums 5 .u8 a0z a0)]) 100000 k spec_MacKey.K0 (spec_MacKey.N0 x3z x3) = (spec_MacKey.l0 k x3z x3).map spec_MacKey.enc)
  | 0 => fun _ _ => rfl
  | k + 1 => by
    have ih := spec_MacKey.rounds_eq a0z a0 k
    refine fun _ _ => ?_
    · refine (spec_MacKey.s0 k _ a0z a0 _ _).trans (Eq.trans ?_ (spec_MacKey.l0b_nat spec_MacKey.enc some (spec_MacKey.l0 k) k _ _))
      simp only [ih, Option.map_some]
theorem spec_MacKey.eq (k : Nat) (a0z : Bool) (a0 : List Int) : answer Try.prog spec_MacKey.Cs 100000 spec_MacKey.cuts [] Try.f183 (k + 1) [.v (.nums 5 .u8 a0z a0)] = (spec_MacKey.f (k + 1) a0z a0).map spec_MacKey.enc := by
  have ih := spec_MacKey.rounds_eq a0z a0 k
  refine (spec_MacKey.s k a0z a0).trans (Eq.trans ?_ (spec_MacKey.b_nat spec_MacKey.enc some (spec_MacKey.l0 k) k a0z a0))
  simp only [ih, Option.map_some]
theorem spec_MacKey.sound (k : Nat) : SoundF Try.prog 183 (fun a => (spec_MacKey.ans k a).val) := by
  refine sound_plain (fun args res h => ?_) (fun t n => rfl)
  unfold spec_MacKey.ans at h
  dsimp only at h
  split at h
  · cases k with
    | zero => cases h
    | succ k =>
      unfold Ans.val at h
      rw [← spec_MacKey.eq] at h
      exact answer_sound mixed Try.func183 _ _ _ (k + 1) (fun j _ => tab_sound (tab_cons (spec_l01Copy.sound j) (tab_cons (spec_Sha.sound j) (tab_nil)))) _ _ h
  · exact (Ans.no_val h).elim

/-! loop.example/g00790/spec.Mac -/
def spec_Mac.b {R : Type} (ret : Bool × List Int → Option R) (j0 : Bool → (List Int) → (List Int) → (List Int) → Bool → (List Int) → Int → Int → Option R) (k : Nat) (a0z : Bool) (a0 : List Int) (a1z : Bool) (a1 : List Int) : Option R :=
  (spec_MacKey.f k a0z a0).bind fun t0 => j0 a1z a1 ([] : List Int) ([] : List Int) t0.1 t0.2 ((t0.2).length : Int) 0
def spec_Mac.l0b {R : Type} (ret : Bool × List Int → Option R) (j0 : Bool → (List Int) → (List Int) → (List Int) → Bool → (List Int) → Int → Int → Option R) (k : Nat) (x1z : Bool) (x1 : List Int) (x5 : List Int) (x6 : List Int) (x12z : Bool) (x12 : List Int) (x13 : Int) (x14 : Int) : Option R :=
  cond (decide (x14 < x13)) (cond (decide ((0 : Int) ≤ x14)) (cond (decide (x14 < ((x12).length : Int))) (cond (decide ((x5).length + 1 < 140737488355328)) (cond (decide ((x6).length + 1 < 140737488355328)) (j0 x1z x1 (x5 ++ ([(Go.bits .xor .u8 (rdI x12 x14) 54)] : List Int)) (x6 ++ ([(Go.bits .xor .u8 (rdI x12 x14) 92)] : List Int)) x12z x12 x13 (RowKit.wrap64 (x14 + 1))) (none)) (none)) (none)) (none)) (cond (decide ((x5).length + (x1).length < 140737488355328)) ((spec_Sha.f k ((x1).isEmpty && false) (x5 ++ x1)).bind fun t0 => cond (decide ((x6).length + (t0.2).length < 140737488355328)) ((spec_Sha.f k ((t0.2).isEmpty && false) (x6 ++ t0.2)).bind fun t1 => ret (t1.1, t1.2)) (none)) (none))
def spec_Mac.l0 : Nat → Bool → (List Int) → (List Int) → (List Int) → Bool → (List Int) → Int → Int → Option (Bool × List Int)
  | 0, _, _, _, _, _, _, _, _ => none
  | k + 1, x1z, x1, x5, x6, x12z, x12, x13, x14 => spec_Mac.l0b some (spec_Mac.l0 k) k x1z x1 x5 x6 x12z x12 x13 x14
def spec_Mac.f : Nat → Bool → (List Int) → Bool → (List Int) → Option (Bool × List Int)
  | 0, _, _, _, _ => none
  | k + 1, a0z, a0, a1z, a1 => spec_Mac.b some (spec_Mac.l0 k) k a0z a0 a1z a1
def spec_Mac.enc (r : Bool × List Int) : Res := ⟨[.vals false [((.nums 5 .u8 r.1 r.2), true)]], []⟩
def spec_Mac.ans (k : Nat) : List Arg → Ans
  | [.v (.nums 5 .u8 a0z a0), .v (.nums 5 .u8 a1z a1)] => ⟨spec_Mac.f k a0z a0 a1z a1, spec_Mac.enc⟩
  | _ => Ans.no
def spec_Mac.Cs (k : Nat) : CallSem := tab [(183, spec_MacKey.ans k), (157, spec_Sha.ans k)]
def spec_Mac.cuts : List (Nat × Keep) := [(122, ⟨[(1, some []), (5, none), (6, none), (12, none), (13, some []), (14, some [])], []⟩)]
noncomputable def spec_Mac.K0 : List Fr := framesAt [true, true, true, false, true, false] (bodyOf Try.f123 spec_Mac.cuts) []
def spec_Mac.N0 (x1z : Bool) (x1 : List Int) (x5 : List Int) (x6 : List Int) (x12z : Bool) (x12 : List Int) (x13 : Int) (x14 : Int) : St := stOf 36 36 2 [(1, .val ⟨(.nums 5 .u8 x1z x1), [], false, none⟩), (5, .val ⟨(.nums 5 .u8 false x5), [.l 5 0], true, some (.l 5 0)⟩), (6, .val ⟨(.nums 5 .u8 false x6), [.l 6 0], true, some (.l 6 0)⟩), (12, .val ⟨(.nums 5 .u8 x12z x12), [.l 12 0], true, some (.l 12 0)⟩), (13, .val (V.s (.int .i64 x13))), (14, .val (V.s (.int .i64 x14)))] []
theorem spec_Mac.s (k : Nat) (a0z : Bool) (a0 : List Int) (a1z : Bool) (a1 : List Int) : answer Try.prog spec_Mac.Cs 100000 spec_Mac.cuts [] Try.f123 (k + 1) [.v (.nums 5 .u8 a0z a0), .v (.nums 5 .u8 a1z a1)] = spec_Mac.b (fun r => some (spec_Mac.enc r)) (fun x1z x1 x5 x6 x12z x12 x13 x14 => rounds Try.prog spec_Mac.Cs (finish Try.prog [] Try.f123 [.v (.nums 5 .u8 a0z a0), .v (.nums 5 .u8 a1z a1)]) 100000 k spec_Mac.K0 (spec_Mac.N0 x1z x1 x5 x6 x12z x12 x13 x14)) k a0z a0 a1z a1 := by kernel_rfl
theorem spec_Mac.s0 (k : Nat) (G : List Fr → St → Option Res) (a0z : Bool) (a0 : List Int) (a1z : Bool) (a1 : List Int) (yx1z : Bool) (yx1 : List Int) (yx5 : List Int) (yx6 : List Int) (yx12z : Bool) (yx12 : List Int) (yx13 : Int) (yx14 : Int) : resume Try.prog (spec_Mac.Cs k) G (finish Try.prog [] Try.f123 [.v (.nums 5 .u8 a0z a0), .v (.nums 5 .u8 a1z a1)]) 100000 spec_Mac.K0 (spec_Mac.N0 yx1z yx1 yx5 yx6 yx12z yx12 yx13 yx14) = spec_Mac.l0b (fun r => some (spec_Mac.enc r)) (fun x1z x1 x5 x6 x12z x12 x13 x14 => G spec_Mac.K0 (spec_Mac.N0 x1z x1 x5 x6 x12z x12 x13 x14)) k yx1z yx1 yx5 yx6 yx12z yx12 yx13 yx14 := by kernel_rfl
theorem spec_Mac.b_nat {R R' : Type} (e : R → R') (ret : Bool × List Int → Option R) (j0 : Bool → (List Int) → (List Int) → (List Int) → Bool → (List Int) → Int → Int → Option R) (k : Nat) (a0z : Bool) (a0 : List Int) (a1z : Bool) (a1 : List Int) : spec_Mac.b (fun r => (ret r).map e) (fun x1z x1 x5 x6 x12z x12 x13 x14 => (j0 x1z x1 x5 x6 x12z x12 x13 x14).map e) k a0z a0 a1z a1 = (spec_Mac.b ret j0 k a0z a0 a1z a1).map e := by
  unfold spec_Mac.b
  repeat' first | with_reducible refine nat_cond ?_ ?_ | with_reducible refine nat_bind fun _ => ?_ | rfl
theorem spec_Mac.l0b_nat {R R' : Type} (e : R → R') (ret : Bool × List Int → Option R) (j0 : Bool → (List Int) → (List Int) → (List Int) → Bool → (List Int) → Int → Int → Option R) (k : Nat) (x1z : Bool) (x1 : List Int) (x5 : List Int) (x6 : List Int) (x12z : Bool) (x12 : List Int) (x13 : Int) (x14 : Int) : spec_Mac.l0b (fun r => (ret r).map e) (fun x1z x1 x5 x6 x12z x12 x13 x14 => (j0 x1z x1 x5 x6 x12z x12 x13 x14).map e) k x1z x1 x5 x6 x12z x12 x13 x14 = (spec_Mac.l0b ret j0 k x1z x1 x5 x6 x12z x12 x13 x14).map e := by
  unfold spec_Mac.l0b
  repeat' first | with_reducible refine nat_cond ?_ ?_ | with_reducible refine nat_bind fun _ => ?_ | rfl
theorem spec_Mac.rounds_eq (a0z : Bool) (a0 : List Int) (a1z : Bool) (a1 : List Int) : ∀ k, (∀ (x1z : Bool) (x1 : List Int) (x5 : List Int) (x6 : List Int) (x12z : Bool) (x12 : List Int) (x13 : Int) (x14 : Int), rounds Try.prog spec_Mac.Cs (finish Try.prog [] Try.f123 [.v (.nums 5 .u8 a0z a0), .v (.nums 5 .u8 a1z a1)]) 100000 k spec_Mac.K0 (spec_Mac.N0 x1z x1 x5 x6 x12z x12 x13 x14) = (spec_Mac.l0 k x1z x1 x5 x6 x12z x12 x13 x14).map spec_Mac.enc)
  | 0 => fun _ _ _ _ _ _ _ _ => rfl
  | k + 1 => by
    have ih := spec_Mac.rounds_eq a0z a0 a1z a1 k
    refine fun _ _ _ _ _ _ _ _ => ?_
    · refine (spec_Mac.s0 k _ a0z a0 a1z a1 _ _ _ _ _ _ _ _).trans (Eq.trans ?_ (spec_Mac.l0b_nat spec_Mac.enc some (spec_Mac.l0 k) k _ _ _ _ _ _ _ _))
      simp only [ih, Option.map_some]
theorem spec_Mac.eq (k : Nat) (a0z : Bool) (a0 : List Int) (a1z : Bool) (a1 : List Int) : answer Try.prog spec_Mac.Cs 100000 spec_Mac.cuts [] Try.f123 (k + 1) [.v (.nums 5 .u8 a0z a0), .v (.nums 5 .u8 a1z a1)] = (spec_Mac.f (k + 1) a0z a0 a1z a1).map spec_Mac.enc := by
  have ih := spec_Mac.rounds_eq a0z a0 a1z a1 k
  refine (spec_Mac.s k a0z a0 a1z a1).trans (Eq.trans ?_ (spec_Mac.b_nat spec_Mac.enc some (spec_Mac.l0 k) k a0z a0 a1z a1))
  simp only [ih, Option.map_some]
theorem spec_Mac.sound (k : Nat) : SoundF Try.prog 123 (fun a => (spec_Mac.ans k a).val) := by
  refine sound_plain (fun args res h => ?_) (fun t n => rfl)
  unfold spec_Mac.ans at h
  dsimp only at h
  split at h
  · cases k with
    | zero => cases h
    | succ k =>
      unfold Ans.val at h
      rw [← spec_Mac.eq] at h
      exact answer_sound mixed Try.func123 _ _ _ (k + 1) (fun j _ => tab_sound (tab_cons (spec_MacKey.sound j) (tab_cons (spec_Sha.sound j) (tab_nil)))) _ _ h
  · exact (Ans.no_val h).elim

/-! loop.example/g00790/spec.SignVote -/
def spec_SignVote.b {R : Type} (ret : Int × Int × Bool × (List Int) × Int × Bool × (List Int) × Bool → Option R) (k : Nat) (a0_0z : Bool) (a0_0 : List T) (a1 : Int) (a2 : Int) (a3z : Bool) (a3 : List Int) (a4 : Int) : Option R :=
  (spec_VoteBytes.f k a1 a2 a3z a3).bind fun t0 => (spec_TableOk.f k a0_0z a0_0).bind fun t1 => cond (!t1) (ret (0, 0, true, ([] : List Int), 0, true, ([] : List Int), false)) (cond (decide (((t0.2).length : Int) = 0)) (ret (0, 0, true, ([] : List Int), 0, true, ([] : List Int), false)) ((spec_l01In.f k a4 0 (RowKit.wrap64 (((a0_0).length : Int) - 1))).bind fun t2 => cond (!t2) (ret (0, 0, true, ([] : List Int), 0, true, ([] : List Int), false)) ((spec_l01Copy.f k a3z a3).bind fun t3 => cond (decide ((0 : Int) ≤ a4)) (cond (decide (a4 < ((a0_0).length : Int))) ((spec_Mac.f k (((((a0_0).getD (a4).toNat .bad).cells.getD 1 .bad)).isNil) (((((a0_0).getD (a4).toNat .bad).cells.getD 1 .bad)).toNums) t0.1 t0.2).bind fun t4 => ret (a1, a2, t3.1, t3.2, a4, t4.1, t4.2, true)) (none)) (none))))
def spec_SignVote.f : Nat → Bool → (List T) → Int → Int → Bool → (List Int) → Int → Option (Int × Int × Bool × (List Int) × Int × Bool × (List Int) × Bool)
  | 0, _, _, _, _, _, _, _ => none
  | k + 1, a0_0z, a0_0, a1, a2, a3z, a3, a4 => spec_SignVote.b some k a0_0z a0_0 a1 a2 a3z a3 a4
def spec_SignVote.enc (r : Int × Int × Bool × (List Int) × Int × Bool × (List Int) × Bool) : Res := ⟨[.vals true [((.int .i64 r.1), true), ((.int .i64 r.2.1), true), ((.nums 5 .u8 r.2.2.1 r.2.2.2.1), true), ((.int .i64 r.2.2.2.2.1), true), ((.nums 5 .u8 r.2.2.2.2.2.1 r.2.2.2.2.2.2.1), true)], .vals false [((.bool r.2.2.2.2.2.2.2), true)]], []⟩
def spec_SignVote.ans (k : Nat) : List Arg → Ans
  | [.v (.agg [(.sl 160 a0_0z a0_0)]), .v (.int .i64 a1), .v (.int .i64 a2), .v (.nums 5 .u8 a3z a3), .v (.int .i64 a4)] => ⟨spec_SignVote.f k a0_0z a0_0 a1 a2 a3z a3 a4, spec_SignVote.enc⟩
  | _ => Ans.no
def spec_SignVote.Cs (k : Nat) : CallSem := tab [(121, spec_TableOk.ans k), (122, spec_l01In.ans k), (129, spec_VoteBytes.ans k), (130, spec_l01Copy.ans k), (123, spec_Mac.ans k)]
def spec_SignVote.cuts : List (Nat × Keep) := []
theorem spec_SignVote.s (k : Nat) (a0_0z : Bool) (a0_0 : List T) (a1 : Int) (a2 : Int) (a3z : Bool) (a3 : List Int) (a4 : Int) : answer Try.prog spec_SignVote.Cs 100000 spec_SignVote.cuts [] Try.f49 (k + 1) [.v (.agg [(.sl 160 a0_0z a0_0)]), .v (.int .i64 a1), .v (.int .i64 a2), .v (.nums 5 .u8 a3z a3), .v (.int .i64 a4)] = spec_SignVote.b (fun r => some (spec_SignVote.enc r)) k a0_0z a0_0 a1 a2 a3z a3 a4 := by kernel_rfl
theorem spec_SignVote.b_nat {R R' : Type} (e : R → R') (ret : Int × Int × Bool × (List Int) × Int × Bool × (List Int) × Bool → Option R) (k : Nat) (a0_0z : Bool) (a0_0 : List T) (a1 : Int) (a2 : Int) (a3z : Bool) (a3 : List Int) (a4 : Int) : spec_SignVote.b (fun r => (ret r).map e) k a0_0z a0_0 a1 a2 a3z a3 a4 = (spec_SignVote.b ret k a0_0z a0_0 a1 a2 a3z a3 a4).map e := by
  unfold spec_SignVote.b
  repeat' first | with_reducible refine nat_cond ?_ ?_ | with_reducible refine nat_bind fun _ => ?_ | rfl
theorem spec_SignVote.eq (k : Nat) (a0_0z : Bool) (a0_0 : List T) (a1 : Int) (a2 : Int) (a3z : Bool) (a3 : List Int) (a4 : Int) : answer Try.prog spec_SignVote.Cs 100000 spec_SignVote.cuts [] Try.f49 (k + 1) [.v (.agg [(.sl 160 a0_0z a0_0)]), .v (.int .i64 a1), .v (.int .i64 a2), .v (.nums 5 .u8 a3z a3), .v (.int .i64 a4)] = (spec_SignVote.f (k + 1) a0_0z a0_0 a1 a2 a3z a3 a4).map spec_SignVote.enc := by
  refine (spec_SignVote.s k a0_0z a0_0 a1 a2 a3z a3 a4).trans (Eq.trans ?_ (spec_SignVote.b_nat spec_SignVote.enc some k a0_0z a0_0 a1 a2 a3z a3 a4))
  simp only [Option.map_some]
theorem spec_SignVote.sound (k : Nat) : SoundF Try.prog 49 (fun a => (spec_SignVote.ans k a).val) := by
  refine sound_plain (fun args res h => ?_) (fun t n => rfl)
  unfold spec_SignVote.ans at h
  dsimp only at h
  split at h
  · cases k with
    | zero => cases h
    | succ k =>
      unfold Ans.val at h
      rw [← spec_SignVote.eq] at h
      exact answer_sound mixed Try.func49 _ _ _ (k + 1) (fun j _ => tab_sound (tab_cons (spec_TableOk.sound j) (tab_cons (spec_l01In.sound j) (tab_cons (spec_VoteBytes.sound j) (tab_cons (spec_l01Copy.sound j) (tab_cons (spec_Mac.sound j) (tab_nil))))))) _ _ h
  · exact (Ans.no_val h).elim

/-! loop.example/g00790/spec.VoteSame -/
def spec_VoteSame.b {R : Type} (ret : Bool → Option R) (k : Nat) (a0_0 : Int) (a0_1 : Int) (a0_2z : Bool) (a0_2 : List Int) (a0_3 : Int) (a0_4z : Bool) (a0_4 : List Int) (a1_0 : Int) (a1_1 : Int) (a1_2z : Bool) (a1_2 : List Int) (a1_3 : Int) (a1_4z : Bool) (a1_4 : List Int) : Option R :=
  cond (decide (a0_0 = a1_0)) (cond (decide (a0_1 = a1_1)) ((spec_SameBytes.f k a0_2z a0_2 a1_2z a1_2).bind fun t0 => cond t0 (cond (decide (a0_3 = a1_3)) ((spec_SameBytes.f k a0_4z a0_4 a1_4z a1_4).bind fun t1 => ret t1) (ret false)) (ret false)) (ret false)) (ret false)
def spec_VoteSame.f : Nat → Int → Int → Bool → (List Int) → Int → Bool → (List Int) → Int → Int → Bool → (List Int) → Int → Bool → (List Int) → Option Bool
  | 0, _, _, _, _, _, _, _, _, _, _, _, _, _, _ => none
  | k + 1, a0_0, a0_1, a0_2z, a0_2, a0_3, a0_4z, a0_4, a1_0, a1_1, a1_2z, a1_2, a1_3, a1_4z, a1_4 => spec_VoteSame.b some k a0_0 a0_1 a0_2z a0_2 a0_3 a0_4z a0_4 a1_0 a1_1 a1_2z a1_2 a1_3 a1_4z a1_4
def spec_VoteSame.enc (r : Bool) : Res := ⟨[.vals false [((.bool r), true)]], []⟩
def spec_VoteSame.ans (k : Nat) : List Arg → Ans
  | [.v (.agg [(.int .i64 a0_0), (.int .i64 a0_1), (.nums 5 .u8 a0_2z a0_2), (.int .i64 a0_3), (.nums 5 .u8 a0_4z a0_4)]), .v (.agg [(.int .i64 a1_0), (.int .i64 a1_1), (.nums 5 .u8 a1_2z a1_2), (.int .i64 a1_3), (.nums 5 .u8 a1_4z a1_4)])] => ⟨spec_VoteSame.f k a0_0 a0_1 a0_2z a0_2 a0_3 a0_4z a0_4 a1_0 a1_1 a1_2z a1_2 a1_3 a1_4z a1_4, spec_VoteSame.enc⟩
  | _ => Ans.no
def spec_VoteSame.Cs (k : Nat) : CallSem := tab [(82, spec_SameBytes.ans k)]
def spec_VoteSame.cuts : List (Nat × Keep) := []
theorem spec_VoteSame.s (k : Nat) (a0_0 : Int) (a0_1 : Int) (a0_2z : Bool) (a0_2 : List Int) (a0_3 : Int) (a0_4z : Bool) (a0_4 : List Int) (a1_0 : Int) (a1_1 : Int) (a1_2z : Bool) (a1_2 : List Int) (a1_3 : Int) (a1_4z : Bool) (a1_4 : List Int) : answer Try.prog spec_VoteSame.Cs 100000 spec_VoteSame.cuts [] Try.f168 (k + 1) [.v (.agg [(.int .i64 a0_0), (.int .i64 a0_1), (.nums 5 .u8 a0_2z a0_2), (.int .i64 a0_3), (.nums 5 .u8 a0_4z a0_4)]), .v (.agg [(.int .i64 a1_0), (.int .i64 a1_1), (.nums 5 .u8 a1_2z a1_2), (.int .i64 a1_3), (.nums 5 .u8 a1_4z a1_4)])] = spec_VoteSame.b (fun r => some (spec_VoteSame.enc r)) k a0_0 a0_1 a0_2z a0_2 a0_3 a0_4z a0_4 a1_0 a1_1 a1_2z a1_2 a1_3 a1_4z a1_4 := by kernel_rfl
theorem spec_VoteSame.b_nat {R R' : Type} (e : R → R') (ret : Bool → Option R) (k : Nat) (a0_0 : Int) (a0_1 : Int) (a0_2z : Bool) (a0_2 : List Int) (a0_3 : Int) (a0_4z : Bool) (a0_4 : List Int) (a1_0 : Int) (a1_1 : Int) (a1_2z : Bool) (a1_2 : List Int) (a1_3 : Int) (a1_4z : Bool) (a1_4 : List Int) : spec_VoteSame.b (fun r => (ret r).map e) k a0_0 a0_1 a0_2z a0_2 a0_3 a0_4z a0_4 a1_0 a1_1 a1_2z a1_2 a1_3 a1_4z a1_4 = (spec_VoteSame.b ret k a0_0 a0_1 a0_2z a0_2 a0_3 a0_4z a0_4 a1_0 a1_1 a1_2z a1_2 a1_3 a1_4z a1_4).map e := by
  unfold spec_VoteSame.b
  repeat' first | with_reducible refine nat_cond ?_ ?_ | with_reducible refine nat_bind fun _ => ?_ | rfl
theorem spec_VoteSame.eq (k : Nat) (a0_0 : Int) (a0_1 : Int) (a0_2z : Bool) (a0_2 : List Int) (a0_3 : Int) (a0_4z : Bool) (a0_4 : List Int) (a1_0 : Int) (a1_1 : Int) (a1_2z : Bool) (a1_2 : List Int) (a1_3 : Int) (a1_4z : Bool) (a1_4 : List Int) : answer Try.prog spec_VoteSame.Cs 100000 spec_VoteSame.cuts [] Try.f168 (k + 1) [.v (.agg [(.int .i64 a0_0), (.int .i64 a0_1), (.nums 5 .u8 a0_2z a0_2), (.int .i64 a0_3), (.nums 5 .u8 a0_4z a0_4)]), .v (.agg [(.int .i64 a1_0), (.int .i64 a1_1), (.nums 5 .u8 a1_2z a1_2), (.int .i64 a1_3), (.nums 5 .u8 a1_4z a1_4)])] = (spec_VoteSame.f (k + 1) a0_0 a0_1 a0_2z a0_2 a0_3 a0_4z a0_4 a1_0 a1_1 a1_2z a1_2 a1_3 a1_4z a1_4).map spec_VoteSame.enc := by
  refine (spec_VoteSame.s k a0_0 a0_1 a0_2z a0_2 a0_3 a0_4z a0_4 a1_0 a1_1 a1_2z a1_2 a1_3 a1_4z a1_4).trans (Eq.trans ?_ (spec_VoteSame.b_nat spec_VoteSame.enc some k a0_0 a0_1 a0_2z a0_2 a0_3 a0_4z a0_4 a1_0 a1_1 a1_2z a1_2 a1_3 a1_4z a1_4))
  simp only [Option.map_some]
theorem spec_VoteSame.sound (k : Nat) : SoundF Try.prog 168 (fun a => (spec_VoteSame.ans k a).val) := by
  refine sound_plain (fun args res h => ?_) (fun t n => rfl)
  unfold spec_VoteSame.ans at h
  dsimp only at h
  split at h
  · cases k with
    | zero => cases h
    | succ k =>
      unfold Ans.val at h
      rw [← spec_VoteSame.eq] at h
      exact answer_sound mixed Try.func168 _ _ _ (k + 1) (fun j _ => tab_sound (tab_cons (spec_SameBytes.sound j) (tab_nil))) _ _ h
  · exact (Ans.no_val h).elim

/-! loop.example/g00790/spec.VoteGood -/
def spec_VoteGood.b {R : Type} (ret : Bool → Option R) (k : Nat) (a0_0z : Bool) (a0_0 : List T) (a1_0 : Int) (a1_1 : Int) (a1_2z : Bool) (a1_2 : List Int) (a1_3 : Int) (a1_4z : Bool) (a1_4 : List Int) : Option R :=
  (spec_SignVote.f k a0_0z a0_0 a1_0 a1_1 a1_2z a1_2 a1_3).bind fun t0 => cond t0.2.2.2.2.2.2.2 ((spec_VoteSame.f k a1_0 a1_1 a1_2z a1_2 a1_3 a1_4z a1_4 t0.1 t0.2.1 t0.2.2.1 t0.2.2.2.1 t0.2.2.2.2.1 t0.2.2.2.2.2.1 t0.2.2.2.2.2.2.1).bind fun t1 => ret t1) (ret false)
def spec_VoteGood.f : Nat → Bool → (List T) → Int → Int → Bool → (List Int) → Int → Bool → (List Int) → Option Bool
  | 0, _, _, _, _, _, _, _, _, _ => none
  | k + 1, a0_0z, a0_0, a1_0, a1_1, a1_2z, a1_2, a1_3, a1_4z, a1_4 => spec_VoteGood.b some k a0_0z a0_0 a1_0 a1_1 a1_2z a1_2 a1_3 a1_4z a1_4
def spec_VoteGood.enc (r : Bool) : Res := ⟨[.vals false [((.bool r), true)]], []⟩
def spec_VoteGood.ans (k : Nat) : List Arg → Ans
  | [.v (.agg [(.sl 160 a0_0z a0_0)]), .v (.agg [(.int .i64 a1_0), (.int .i64 a1_1), (.nums 5 .u8 a1_2z a1_2), (.int .i64 a1_3), (.nums 5 .u8 a1_4z a1_4)])] => ⟨spec_VoteGood.f k a0_0z a0_0 a1_0 a1_1 a1_2z a1_2 a1_3 a1_4z a1_4, spec_VoteGood.enc⟩
  | _ => Ans.no
def spec_VoteGood.Cs (k : Nat) : CallSem := tab [(49, spec_SignVote.ans k), (168, spec_VoteSame.ans k)]
def spec_VoteGood.cuts : List (Nat × Keep) := []
theorem spec_VoteGood.s (k : Nat) (a0_0z : Bool) (a0_0 : List T) (a1_0 : Int) (a1_1 : Int) (a1_2z : Bool) (a1_2 : List Int) (a1_3 : Int) (a1_4z : Bool) (a1_4 : List Int) : answer Try.prog spec_VoteGood.Cs 100000 spec_VoteGood.cuts [] Try.f101 (k + 1) [.v (.agg [(.sl 160 a0_0z a0_0)]), .v (.agg [(.int .i64 a1_0), (.int .i64 a1_1), (.nums 5 .u8 a1_2z a1_2), (.int .i64 a1_3), (.nums 5 .u8 a1_4z a1_4)])] = spec_VoteGood.b (fun r => some (spec_VoteGood.enc r)) k a0_0z a0_0 a1_0 a1_1 a1_2z a1_2 a1_3 a1_4z a1_4 := by kernel_rfl
theorem spec_VoteGood.b_nat {R R' : Type} (e : R → R') (ret : Bool → Option R) (k : Nat) (a0_0z : Bool) (a0_0 : List T) (a1_0 : Int) (a1_1 : Int) (a1_2z : Bool) (a1_2 : List Int) (a1_3 : Int) (a1_4z : Bool) (a1_4 : List Int) : spec_VoteGood.b (fun r => (ret r).map e) k a0_0z a0_0 a1_0 a1_1 a1_2z a1_2 a1_3 a1_4z a1_4 = (spec_VoteGood.b ret k a0_0z a0_0 a1_0 a1_1 a1_2z a1_2 a1_3 a1_4z a1_4).map e := by
  unfold spec_VoteGood.b
  repeat' first | with_reducible refine nat_cond ?_ ?_ | with_reducible refine nat_bind fun _ => ?_ | rfl
theorem spec_VoteGood.eq (k : Nat) (a0_0z : Bool) (a0_0 : List T) (a1_0 : Int) (a1_1 : Int) (a1_2z : Bool) (a1_2 : List Int) (a1_3 : Int) (a1_4z : Bool) (a1_4 : List Int) : answer Try.prog spec_VoteGood.Cs 100000 spec_VoteGood.cuts [] Try.f101 (k + 1) [.v (.agg [(.sl 160 a0_0z a0_0)]), .v (.agg [(.int .i64 a1_0), (.int .i64 a1_1), (.nums 5 .u8 a1_2z a1_2), (.int .i64 a1_3), (.nums 5 .u8 a1_4z a1_4)])] = (spec_VoteGood.f (k + 1) a0_0z a0_0 a1_0 a1_1 a1_2z a1_2 a1_3 a1_4z a1_4).map spec_VoteGood.enc := by
  refine (spec_VoteGood.s k a0_0z a0_0 a1_0 a1_1 a1_2z a1_2 a1_3 a1_4z a1_4).trans (Eq.trans ?_ (spec_VoteGood.b_nat spec_VoteGood.enc some k a0_0z a0_0 a1_0 a1_1 a1_2z a1_2 a1_3 a1_4z a1_4))
  simp only [Option.map_some]
theorem spec_VoteGood.sound (k : Nat) : SoundF Try.prog 101 (fun a => (spec_VoteGood.ans k a).val) := by
  refine sound_plain (fun args res h => ?_) (fun t n => rfl)
  unfold spec_VoteGood.ans at h
  dsimp only at h
  split at h
  · cases k with
    | zero => cases h
    | succ k =>
      unfold Ans.val at h
      rw [← spec_VoteGood.eq] at h
      exact answer_sound mixed Try.func101 _ _ _ (k + 1) (fun j _ => tab_sound (tab_cons (spec_SignVote.sound j) (tab_cons (spec_VoteSame.sound j) (tab_nil)))) _ _ h
  · exact (Ans.no_val h).elim

/-! loop.example/g00790/spec.BitsSize -/
def spec_BitsSize.b {R : Type} (ret : Int → Option R) (k : Nat) (a0 : Int) : Option R :=
  cond (decide (a0 < 1)) (ret 0) (ret (RowKit.wrap64 ((RowKit.wrap64 (Int.tdiv (RowKit.wrap64 (a0 - 1)) 8)) + 1)))
def spec_BitsSize.f : Nat → Int → Option Int
  | 0, _ => none
  | k + 1, a0 => spec_BitsSize.b some k a0
def spec_BitsSize.enc (r : Int) : Res := ⟨[.vals false [((.int .i64 r), true)]], []⟩
def spec_BitsSize.ans (k : Nat) : List Arg → Ans
  | [.v (.int .i64 a0)] => ⟨spec_BitsSize.f k a0, spec_BitsSize.enc⟩
  | _ => Ans.no
def spec_BitsSize.Cs (k : Nat) : CallSem := tab []
def spec_BitsSize.cuts : List (Nat × Keep) := []
theorem spec_BitsSize.s (k : Nat) (a0 : Int) : answer Try.prog spec_BitsSize.Cs 100000 spec_BitsSize.cuts [] Try.f134 (k + 1) [.v (.int .i64 a0)] = spec_BitsSize.b (fun r => some (spec_BitsSize.enc r)) k a0 := by kernel_rfl
theorem spec_BitsSize.b_nat {R R' : Type} (e : R → R') (ret : Int → Option R) (k : Nat) (a0 : Int) : spec_BitsSize.b (fun r => (ret r).map e) k a0 = (spec_BitsSize.b ret k a0).map e := by
  unfold spec_BitsSize.b
  repeat' first | with_reducible refine nat_cond ?_ ?_ | with_reducible refine nat_bind fun _ => ?_ | rfl
theorem spec_BitsSize.eq (k : Nat) (a0 : Int) : answer Try.prog spec_BitsSize.Cs 100000 spec_BitsSize.cuts [] Try.f134 (k + 1) [.v (.int .i64 a0)] = (spec_BitsSize.f (k + 1) a0).map spec_BitsSize.enc := by
  refine (spec_BitsSize.s k a0).trans (Eq.trans ?_ (spec_BitsSize.b_nat spec_BitsSize.enc some k a0))
  simp only [Option.map_some]
theorem spec_BitsSize.sound (k : Nat) : SoundF Try.prog 134 (fun a => (spec_BitsSize.ans k a).val) := by
  refine sound_plain (fun args res h => ?_) (fun t n => rfl)
  unfold spec_BitsSize.ans at h
  dsimp only at h
  split at h
  · cases k with
    | zero => cases h
    | succ k =>
      unfold Ans.val at h
      rw [← spec_BitsSize.eq] at h
      exact answer_sound mixed Try.func134 _ _ _ (k + 1) (fun j _ => tab_sound (tab_nil)) _ _ h
  · exact (Ans.no_val h).elim

/-! loop.example/g00790/spec.BitsNew -/
def spec_BitsNew.b {R : Type} (ret : Bool × List Int → Option R) (k : Nat) (a0 : Int) : Option R :=
  (spec_l02Signers.f k a0).bind fun t0 => cond (!t0) (ret (true, ([] : List Int))) ((spec_BitsSize.f k a0).bind fun t1 => cond (decide (t1 = t1)) (cond (decide ((0 : Int) ≤ t1)) (cond (decide ((t1).toNat < 140737488355328)) (ret (false, (List.replicate (t1).toNat (0 : Int)))) (none)) (none)) (none))
def spec_BitsNew.f : Nat → Int → Option (Bool × List Int)
  | 0, _ => none
  | k + 1, a0 => spec_BitsNew.b some k a0
def spec_BitsNew.enc (r : Bool × List Int) : Res := ⟨[.vals false [((.nums 5 .u8 r.1 r.2), true)]], []⟩
def spec_BitsNew.ans (k : Nat) : List Arg → Ans
  | [.v (.int .i64 a0)] => ⟨spec_BitsNew.f k a0, spec_BitsNew.enc⟩
  | _ => Ans.no
def spec_BitsNew.Cs (k : Nat) : CallSem := tab [(155, spec_l02Signers.ans k), (134, spec_BitsSize.ans k)]
def spec_BitsNew.cuts : List (Nat × Keep) := []
theorem spec_BitsNew.s (k : Nat) (a0 : Int) : answer Try.prog spec_BitsNew.Cs 100000 spec_BitsNew.cuts [] Try.f206 (k + 1) [.v (.int .i64 a0)] = spec_BitsNew.b (fun r => some (spec_BitsNew.enc r)) k a0 := by kernel_rfl
theorem spec_BitsNew.b_nat {R R' : Type} (e : R → R') (ret : Bool × List Int → Option R) (k : Nat) (a0 : Int) : spec_BitsNew.b (fun r => (ret r).map e) k a0 = (spec_BitsNew.b ret k a0).map e := by
  unfold spec_BitsNew.b
  repeat' first | with_reducible refine nat_cond ?_ ?_ | with_reducible refine nat_bind fun _ => ?_ | rfl
theorem spec_BitsNew.eq (k : Nat) (a0 : Int) : answer Try.prog spec_BitsNew.Cs 100000 spec_BitsNew.cuts [] Try.f206 (k + 1) [.v (.int .i64 a0)] = (spec_BitsNew.f (k + 1) a0).map spec_BitsNew.enc := by
  refine (spec_BitsNew.s k a0).trans (Eq.trans ?_ (spec_BitsNew.b_nat spec_BitsNew.enc some k a0))
  simp only [Option.map_some]
theorem spec_BitsNew.sound (k : Nat) : SoundF Try.prog 206 (fun a => (spec_BitsNew.ans k a).val) := by
  refine sound_plain (fun args res h => ?_) (fun t n => rfl)
  unfold spec_BitsNew.ans at h
  dsimp only at h
  split at h
  · cases k with
    | zero => cases h
    | succ k =>
      unfold Ans.val at h
      rw [← spec_BitsNew.eq] at h
      exact answer_sound mixed Try.func206 _ _ _ (k + 1) (fun j _ => tab_sound (tab_cons (spec_l02Signers.sound j) (tab_cons (spec_BitsSize.sound j) (tab_nil)))) _ _ h
  · exact (Ans.no_val h).elim

/-! loop.example/g00790/spec.BitsHas -/
def spec_BitsHas.b {R : Type} (ret : Bool → Option R) (k : Nat) (a0z : Bool) (a0 : List Int) (a1 : Int) : Option R :=
  cond (decide (a1 ≥ 0)) (cond (decide ((RowKit.wrap64 (Int.tdiv a1 8)) < ((a0).length : Int))) (cond (decide ((0 : Int) ≤ (RowKit.wrap64 (Int.tdiv a1 8)))) (cond (decide ((RowKit.wrap64 (Int.tdiv a1 8)) < ((a0).length : Int))) (cond (decide ((0 : Int) ≤ (Int.tmod a1 8))) (ret (decide ((Int.tmod (shrI .i64 (RowKit.wrap64 ((rdI a0 (RowKit.wrap64 (Int.tdiv a1 8))))) (Int.tmod a1 8)) 2) = 1))) (none)) (none)) (none)) (ret false)) (ret false)
def spec_BitsHas.f : Nat → Bool → (List Int) → Int → Option Bool
  | 0, _, _, _ => none
  | k + 1, a0z, a0, a1 => spec_BitsHas.b some k a0z a0 a1
def spec_BitsHas.enc (r : Bool) : Res := ⟨[.vals false [((.bool r), true)]], []⟩
def spec_BitsHas.ans (k : Nat) : List Arg → Ans
  | [.v (.nums 5 .u8 a0z a0), .v (.int .i64 a1)] => ⟨spec_BitsHas.f k a0z a0 a1, spec_BitsHas.enc⟩
  | _ => Ans.no
def spec_BitsHas.Cs (k : Nat) : CallSem := tab []
def spec_BitsHas.cuts : List (Nat × Keep) := []
theorem spec_BitsHas.s (k : Nat) (a0z : Bool) (a0 : List Int) (a1 : Int) : answer Try.prog spec_BitsHas.Cs 100000 spec_BitsHas.cuts [] Try.f188 (k + 1) [.v (.nums 5 .u8 a0z a0), .v (.int .i64 a1)] = spec_BitsHas.b (fun r => some (spec_BitsHas.enc r)) k a0z a0 a1 := by kernel_rfl
theorem spec_BitsHas.b_nat {R R' : Type} (e : R → R') (ret : Bool → Option R) (k : Nat) (a0z : Bool) (a0 : List Int) (a1 : Int) : spec_BitsHas.b (fun r => (ret r).map e) k a0z a0 a1 = (spec_BitsHas.b ret k a0z a0 a1).map e := by
  unfold spec_BitsHas.b
  repeat' first | with_reducible refine nat_cond ?_ ?_ | with_reducible refine nat_bind fun _ => ?_ | rfl
theorem spec_BitsHas.eq (k : Nat) (a0z : Bool) (a0 : List Int) (a1 : Int) : answer Try.prog spec_BitsHas.Cs 100000 spec_BitsHas.cuts [] Try.f188 (k + 1) [.v (.nums 5 .u8 a0z a0), .v (.int .i64 a1)] = (spec_BitsHas.f (k + 1) a0z a0 a1).map spec_BitsHas.enc := by
  refine (spec_BitsHas.s k a0z a0 a1).trans (Eq.trans ?_ (spec_BitsHas.b_nat spec_BitsHas.enc some k a0z a0 a1))
  simp only [Option.map_some]
theorem spec_BitsHas.sound (k : Nat) : SoundF Try.prog 188 (fun a => (spec_BitsHas.ans k a).val) := by
  refine sound_plain (fun args res h => ?_) (fun t n => rfl)
  unfold spec_BitsHas.ans at h
  dsimp only at h
  split at h
  · cases k with
    | zero => cases h
    | succ k =>
      unfold Ans.val at h
      rw [← spec_BitsHas.eq] at h
      exact answer_sound mixed Try.func188 _ _ _ (k + 1) (fun j _ => tab_sound (tab_nil)) _ _ h
  · exact (Ans.no_val h).elim

/-! loop.example/g00790/spec.BitsList -/
def spec_BitsList.b {R : Type} (ret : Bool × List Int → Option R) (j0 : Bool → (List Int) → (List Int) → Int → Option R) (k : Nat) (a0z : Bool) (a0 : List Int) : Option R :=
  j0 a0z a0 ([] : List Int) 0
def spec_BitsList.l0b {R : Type} (ret : Bool × List Int → Option R) (j0 : Bool → (List Int) → (List Int) → Int → Option R) (k : Nat) (x0z : Bool) (x0 : List Int) (x3 : List Int) (x4 : Int) : Option R :=
  cond (decide (x4 < (RowKit.wrap64 ((8 : Int) * ((x0).length : Int))))) ((spec_BitsHas.f k x0z x0 x4).bind fun t0 => cond t0 (cond (decide ((x3).length + 1 < 17592186044416)) (j0 x0z x0 (x3 ++ ([x4] : List Int)) (RowKit.wrap64 (x4 + 1))) (none)) (j0 x0z x0 x3 (RowKit.wrap64 (x4 + 1)))) (ret (false, x3))
def spec_BitsList.l0 : Nat → Bool → (List Int) → (List Int) → Int → Option (Bool × List Int)
  | 0, _, _, _, _ => none
  | k + 1, x0z, x0, x3, x4 => spec_BitsList.l0b some (spec_BitsList.l0 k) k x0z x0 x3 x4
def spec_BitsList.f : Nat → Bool → (List Int) → Option (Bool × List Int)
  | 0, _, _ => none
  | k + 1, a0z, a0 => spec_BitsList.b some (spec_BitsList.l0 k) k a0z a0
def spec_BitsList.enc (r : Bool × List Int) : Res := ⟨[.vals false [((.nums 3 .i64 r.1 r.2), true)]], []⟩
def spec_BitsList.ans (k : Nat) : List Arg → Ans
  | [.v (.nums 5 .u8 a0z a0)] => ⟨spec_BitsList.f k a0z a0, spec_BitsList.enc⟩
  | _ => Ans.no
def spec_BitsList.Cs (k : Nat) : CallSem := tab [(188, spec_BitsHas.ans k)]
def spec_BitsList.cuts : List (Nat × Keep) := [(58, ⟨[(0, some []), (3, none), (4, some [])], []⟩)]
noncomputable def spec_BitsList.K0 : List Fr := framesAt [true, true, false, true, false] (bodyOf Try.f136 spec_BitsList.cuts) []
def spec_BitsList.N0 (x0z : Bool) (x0 : List Int) (x3 : List Int) (x4 : Int) : St := stOf 21 21 1 [(0, .val ⟨(.nums 5 .u8 x0z x0), [], false, none⟩), (3, .val ⟨(.nums 3 .i64 false x3), [.l 3 0], true, some (.l 3 0)⟩), (4, .val (V.s (.int .i64 x4)))] []
theorem spec_BitsList.s (k : Nat) (a0z : Bool) (a0 : List Int) : answer Try.prog spec_BitsList.Cs 100000 spec_BitsList.cuts [] Try.f136 (k + 1) [.v (.nums 5 .u8 a0z a0)] = spec_BitsList.b (fun r => some (spec_BitsList.enc r)) (fun x0z x0 x3 x4 => rounds Try.prog spec_BitsList.Cs (finish Try.prog [] Try.f136 [.v (.nums 5 .u8 a0z a0)]) 100000 k spec_BitsList.K0 (spec_BitsList.N0 x0z x0 x3 x4)) k a0z a0 := by kernel_rfl
theorem spec_BitsList.s0 (k : Nat) (G : List Fr → St → Option Res) (a0z : Bool) (a0 : List Int) (yx0z : Bool) (yx0 : List Int) (yx3 : List Int) (yx4 : Int) : resume Try.prog (spec_BitsList.Cs k) G (finish Try.prog [] Try.f136 [.v (.nums 5 .u8 a0z a0)]) 100000 spec_BitsList.K0 (spec_BitsList.N0 yx0z yx0 yx3 yx4) = spec_BitsList.l0b (fun r => some (spec_BitsList.enc r)) (fun x0z x0 x3 x4 => G spec_BitsList.K0 (spec_BitsList.N0 x0z x0 x3 x4)) k yx0z yx0 yx3 yx4 := by kernel_rfl
theorem spec_BitsList.b_nat {R R' : Type} (e : R → R') (ret : Bool × List Int → Option R) (j0 : Bool → (List Int) → (List Int) → Int → Option R) (k : Nat) (a0z : Bool) (a0 : List Int) : spec_BitsList.b (fun r => (ret r).map e) (fun x0z x0 x3 x4 => (j0 x0z x0 x3 x4).map e) k a0z a0 = (spec_BitsList.b ret j0 k a0z a0).map e := by
  unfold spec_BitsList.b
  repeat' first | with_reducible refine nat_cond ?_ ?_ | with_reducible refine nat_bind fun _ => ?_ | rfl
theorem spec_BitsList.l0b_nat {R R' : Type} (e : R → R') (ret : Bool × List Int → Option R) (j0 : Bool → (List Int) → (List Int) → Int → Option R) (k : Nat) (x0z : Bool) (x0 : List Int) (x3 : List Int) (x4 : Int) : spec_BitsList.l0b (fun r => (ret r).map e) (fun x0z x0 x3 x4 => (j0 x0z x0 x3 x4).map e) k x0z x0 x3 x4 = (spec_BitsList.l0b ret j0 k x0z x0 x3 x4).map e := by
  unfold spec_BitsList.l0b
  repeat' first | with_reducible refine nat_cond ?_ ?_ | with_reducible refine nat_bind fun _ => ?_ | rfl
theorem spec_BitsList.rounds_eq (a0z : Bool) (a0 : List Int) : ∀ k, (∀ (x0z : Bool) (x0 : List Int) (x3 : List Int) (x4 : Int), rounds Try.prog spec_BitsList.Cs (finish Try.prog [] Try.f136 [.v (.nums 5 .u8 a0z a0)]) 100000 k spec_BitsList.K0 (spec_BitsList.N0 x0z x0 x3 x4) = (spec_BitsList.l0 k x0z x0 x3 x4).map spec_BitsList.enc)
  | 0 => fun _ _ _ _ => rfl
  | k + 1 => by
    have ih := spec_BitsList.rounds_eq a0z a0 k
    refine fun _ _ _ _ => ?_
    · refine (spec_BitsList.s0 k _ a0z a0 _ _ _ _).trans (Eq.trans ?_ (spec_BitsList.l0b_nat spec_BitsList.enc some (spec_BitsList.l0 k) k _ _ _ _))
      simp only [ih, Option.map_some]
theorem spec_BitsList.eq (k : Nat) (a0z : Bool) (a0 : List Int) : answer Try.prog spec_BitsList.Cs 100000 spec_BitsList.cuts [] Try.f136 (k + 1) [.v (.nums 5 .u8 a0z a0)] = (spec_BitsList.f (k + 1) a0z a0).map spec_BitsList.enc := by
  have ih := spec_BitsList.rounds_eq a0z a0 k
  refine (spec_BitsList.s k a0z a0).trans (Eq.trans ?_ (spec_BitsList.b_nat spec_BitsList.enc some (spec_BitsList.l0 k) k a0z a0))
  simp only [ih, Option.map_some]
theorem spec_BitsList.sound (k : Nat) : SoundF Try.prog 136 (fun a => (spec_BitsList.ans k a).val) := by
  refine sound_plain (fun args res h => ?_) (fun t n => rfl)
  unfold spec_BitsList.ans at h
  dsimp only at h
  split at h
  · cases k with
    | zero => cases h
    | succ k =>
      unfold Ans.val at h
      rw [← spec_BitsList.eq] at h
      exact answer_sound mixed Try.func136 _ _ _ (k + 1) (fun j _ => tab_sound (tab_cons (spec_BitsHas.sound j) (tab_nil))) _ _ h
  · exact (Ans.no_val h).elim

/-! loop.example/g00790/spec.BitsOk -/
def spec_BitsOk.b {R : Type} (ret : Bool → Option R) (k : Nat) (a0z : Bool) (a0 : List Int) (a1 : Int) : Option R :=
  (spec_l02Signers.f k a1).bind fun t0 => cond (!t0) (ret false) ((spec_BitsSize.f k a1).bind fun t1 => cond (!(decide (((a0).length : Int) = t1))) (ret false) ((spec_BitsList.f k a0z a0).bind fun t2 => cond (decide (((t2.2).length : Int) = 0)) (ret true) (cond (decide ((0 : Int) ≤ (RowKit.wrap64 (((t2.2).length : Int) - 1)))) (cond (decide ((RowKit.wrap64 (((t2.2).length : Int) - 1)) < ((t2.2).length : Int))) (ret (decide ((rdI t2.2 (RowKit.wrap64 (((t2.2).length : Int) - 1))) < a1))) (none)) (none))))
def spec_BitsOk.f : Nat → Bool → (List Int) → Int → Option Bool
  | 0, _, _, _ => none
  | k + 1, a0z, a0, a1 => spec_BitsOk.b some k a0z a0 a1
def spec_BitsOk.enc (r : Bool) : Res := ⟨[.vals false [((.bool r), true)]], []⟩
def spec_BitsOk.ans (k : Nat) : List Arg → Ans
  | [.v (.nums 5 .u8 a0z a0), .v (.int .i64 a1)] => ⟨spec_BitsOk.f k a0z a0 a1, spec_BitsOk.enc⟩
  | _ => Ans.no
def spec_BitsOk.Cs (k : Nat) : CallSem := tab [(155, spec_l02Signers.ans k), (134, spec_BitsSize.ans k), (136, spec_BitsList.ans k)]
def spec_BitsOk.cuts : List (Nat × Keep) := []
theorem spec_BitsOk.s (k : Nat) (a0z : Bool) (a0 : List Int) (a1 : Int) : answer Try.prog spec_BitsOk.Cs 100000 spec_BitsOk.cuts [] Try.f138 (k + 1) [.v (.nums 5 .u8 a0z a0), .v (.int .i64 a1)] = spec_BitsOk.b (fun r => some (spec_BitsOk.enc r)) k a0z a0 a1 := by kernel_rfl
theorem spec_BitsOk.b_nat {R R' : Type} (e : R → R') (ret : Bool → Option R) (k : Nat) (a0z : Bool) (a0 : List Int) (a1 : Int) : spec_BitsOk.b (fun r => (ret r).map e) k a0z a0 a1 = (spec_BitsOk.b ret k a0z a0 a1).map e := by
  unfold spec_BitsOk.b
  repeat' first | with_reducible refine nat_cond ?_ ?_ | with_reducible refine nat_bind fun _ => ?_ | rfl
theorem spec_BitsOk.eq (k : Nat) (a0z : Bool) (a0 : List Int) (a1 : Int) : answer Try.prog spec_BitsOk.Cs 100000 spec_BitsOk.cuts [] Try.f138 (k + 1) [.v (.nums 5 .u8 a0z a0), .v (.int .i64 a1)] = (spec_BitsOk.f (k + 1) a0z a0 a1).map spec_BitsOk.enc := by
  refine (spec_BitsOk.s k a0z a0 a1).trans (Eq.trans ?_ (spec_BitsOk.b_nat spec_BitsOk.enc some k a0z a0 a1))
  simp only [Option.map_some]
theorem spec_BitsOk.sound (k : Nat) : SoundF Try.prog 138 (fun a => (spec_BitsOk.ans k a).val) := by
  refine sound_plain (fun args res h => ?_) (fun t n => rfl)
  unfold spec_BitsOk.ans at h
  dsimp only at h
  split at h
  · cases k with
    | zero => cases h
    | succ k =>
      unfold Ans.val at h
      rw [← spec_BitsOk.eq] at h
      exact answer_sound mixed Try.func138 _ _ _ (k + 1) (fun j _ => tab_sound (tab_cons (spec_l02Signers.sound j) (tab_cons (spec_BitsSize.sound j) (tab_cons (spec_BitsList.sound j) (tab_nil))))) _ _ h
  · exact (Ans.no_val h).elim

/-! loop.example/g00790/spec.BitsSet -/
def spec_BitsSet.b {R : Type} (ret : Bool × (List Int) × Bool → Option R) (k : Nat) (a0z : Bool) (a0 : List Int) (a1 : Int) (a2 : Int) (a3 : Bool) : Option R :=
  (spec_BitsOk.f k a0z a0 a1).bind fun t0 => cond (!t0) (ret (true, ([] : List Int), false)) ((spec_l01In.f k a2 0 (RowKit.wrap64 (a1 - 1))).bind fun t1 => cond (!t1) (ret (true, ([] : List Int), false)) ((spec_l01Copy.f k a0z a0).bind fun t2 => (spec_BitsHas.f k a0z a0 a2).bind fun t3 => cond (!(t3 == a3)) (cond (decide ((0 : Int) ≤ (RowKit.wrap64 (Int.tdiv a2 8)))) (cond (decide ((RowKit.wrap64 (Int.tdiv a2 8)) < ((t2.2).length : Int))) (cond (decide ((0 : Int) ≤ (Int.tmod a2 8))) (cond (decide ((0 : Int) ≤ (RowKit.wrap64 (Int.tdiv a2 8)))) (cond (decide ((RowKit.wrap64 (Int.tdiv a2 8)) < ((t2.2).length : Int))) (ret (t2.1, ((t2.2).set ((RowKit.wrap64 (Int.tdiv a2 8))).toNat (Go.bits .xor .u8 (rdI t2.2 (RowKit.wrap64 (Int.tdiv a2 8))) (shlI .u8 1 (Int.tmod a2 8)))), true)) (none)) (none)) (none)) (none)) (none)) (ret (t2.1, t2.2, true))))
def spec_BitsSet.f : Nat → Bool → (List Int) → Int → Int → Bool → Option (Bool × (List Int) × Bool)
  | 0, _, _, _, _, _ => none
  | k + 1, a0z, a0, a1, a2, a3 => spec_BitsSet.b some k a0z a0 a1 a2 a3
def spec_BitsSet.enc (r : Bool × (List Int) × Bool) : Res := ⟨[.vals false [((.nums 5 .u8 r.1 r.2.1), true)], .vals false [((.bool r.2.2), true)]], []⟩
def spec_BitsSet.ans (k : Nat) : List Arg → Ans
  | [.v (.nums 5 .u8 a0z a0), .v (.int .i64 a1), .v (.int .i64 a2), .v (.bool a3)] => ⟨spec_BitsSet.f k a0z a0 a1 a2 a3, spec_BitsSet.enc⟩
  | _ => Ans.no
def spec_BitsSet.Cs (k : Nat) : CallSem := tab [(122, spec_l01In.ans k), (130, spec_l01Copy.ans k), (138, spec_BitsOk.ans k), (188, spec_BitsHas.ans k)]
def spec_BitsSet.cuts : List (Nat × Keep) := []
theorem spec_BitsSet.s (k : Nat) (a0z : Bool) (a0 : List Int) (a1 : Int) (a2 : Int) (a3 : Bool) : answer Try.prog spec_BitsSet.Cs 100000 spec_BitsSet.cuts [] Try.f207 (k + 1) [.v (.nums 5 .u8 a0z a0), .v (.int .i64 a1), .v (.int .i64 a2), .v (.bool a3)] = spec_BitsSet.b (fun r => some (spec_BitsSet.enc r)) k a0z a0 a1 a2 a3 := by kernel_rfl
theorem spec_BitsSet.b_nat {R R' : Type} (e : R → R') (ret : Bool × (List Int) × Bool → Option R) (k : Nat) (a0z : Bool) (a0 : List Int) (a1 : Int) (a2 : Int) (a3 : Bool) : spec_BitsSet.b (fun r => (ret r).map e) k a0z a0 a1 a2 a3 = (spec_BitsSet.b ret k a0z a0 a1 a2 a3).map e := by
  unfold spec_BitsSet.b
  repeat' first | with_reducible refine nat_cond ?_ ?_ | with_reducible refine nat_bind fun _ => ?_ | rfl
theorem spec_BitsSet.eq (k : Nat) (a0z : Bool) (a0 : List Int) (a1 : Int) (a2 : Int) (a3 : Bool) : answer Try.prog spec_BitsSet.Cs 100000 spec_BitsSet.cuts [] Try.f207 (k + 1) [.v (.nums 5 .u8 a0z a0), .v (.int .i64 a1), .v (.int .i64 a2), .v (.bool a3)] = (spec_BitsSet.f (k + 1) a0z a0 a1 a2 a3).map spec_BitsSet.enc := by
  refine (spec_BitsSet.s k a0z a0 a1 a2 a3).trans (Eq.trans ?_ (spec_BitsSet.b_nat spec_BitsSet.enc some k a0z a0 a1 a2 a3))
  simp only [Option.map_some]
theorem spec_BitsSet.sound (k : Nat) : SoundF Try.prog 207 (fun a => (spec_BitsSet.ans k a).val) := by
  refine sound_plain (fun args res h => ?_) (fun t n => rfl)
  unfold spec_BitsSet.ans at h
  dsimp only at h
  split at h
  · cases k with
    | zero => cases h
    | succ k =>
      unfold Ans.val at h
      rw [← spec_BitsSet.eq] at h
      exact answer_sound mixed Try.func207 _ _ _ (k + 1) (fun j _ => tab_sound (tab_cons (spec_l01In.sound j) (tab_cons (spec_l01Copy.sound j) (tab_cons (spec_BitsOk.sound j) (tab_cons (spec_BitsHas.sound j) (tab_nil)))))) _ _ h
  · exact (Ans.no_val h).elim

/-! loop.example/g00790/spec.BitsOf -/
def spec_BitsOf.b {R : Type} (ret : Bool × (List Int) × Bool → Option R) (j0 : Int → Bool → (List Int) → Bool → Bool → (List Int) → Int → Int → Option R) (k : Nat) (a0z : Bool) (a0 : List Int) (a1 : Int) : Option R :=
  (spec_BitsNew.f k a1).bind fun t0 => (spec_l02Signers.f k a1).bind fun t1 => j0 a1 t0.1 t0.2 t1 a0z a0 ((a0).length : Int) 0
def spec_BitsOf.l0b {R : Type} (ret : Bool × (List Int) × Bool → Option R) (j0 : Int → Bool → (List Int) → Bool → Bool → (List Int) → Int → Int → Option R) (k : Nat) (x1 : Int) (x6z : Bool) (x6 : List Int) (x7 : Bool) (x16z : Bool) (x16 : List Int) (x17 : Int) (x18 : Int) : Option R :=
  cond (decide (x18 < x17)) (cond (decide ((0 : Int) ≤ x18)) (cond (decide (x18 < ((x16).length : Int))) ((spec_BitsSet.f k x6z x6 x1 (rdI x16 x18) true).bind fun t0 => cond x7 (j0 x1 t0.1 t0.2.1 t0.2.2 x16z x16 x17 (RowKit.wrap64 (x18 + 1))) (j0 x1 t0.1 t0.2.1 false x16z x16 x17 (RowKit.wrap64 (x18 + 1)))) (none)) (none)) (cond (!x7) (ret (true, ([] : List Int), false)) (ret (x6z, x6, true)))
def spec_BitsOf.l0 : Nat → Int → Bool → (List Int) → Bool → Bool → (List Int) → Int → Int → Option (Bool × (List Int) × Bool)
  | 0, _, _, _, _, _, _, _, _ => none
  | k + 1, x1, x6z, x6, x7, x16z, x16, x17, x18 => spec_BitsOf.l0b some (spec_BitsOf.l0 k) k x1 x6z x6 x7 x16z x16 x17 x18
def spec_BitsOf.f : Nat → Bool → (List Int) → Int → Option (Bool × (List Int) × Bool)
  | 0, _, _, _ => none
  | k + 1, a0z, a0, a1 => spec_BitsOf.b some (spec_BitsOf.l0 k) k a0z a0 a1
def spec_BitsOf.enc (r : Bool × (List Int) × Bool) : Res := ⟨[.vals false [((.nums 5 .u8 r.1 r.2.1), true)], .vals false [((.bool r.2.2), true)]], []⟩
def spec_BitsOf.ans (k : Nat) : List Arg → Ans
  | [.v (.nums 3 .i64 a0z a0), .v (.int .i64 a1)] => ⟨spec_BitsOf.f k a0z a0 a1, spec_BitsOf.enc⟩
  | _ => Ans.no
def spec_BitsOf.Cs (k : Nat) : CallSem := tab [(155, spec_l02Signers.ans k), (206, spec_BitsNew.ans k), (207, spec_BitsSet.ans k)]
def spec_BitsOf.cuts : List (Nat × Keep) := [(122, ⟨[(1, some []), (6, none), (7, some []), (16, some []), (17, some []), (18, some [])], []⟩)]
noncomputable def spec_BitsOf.K0 : List Fr := framesAt [true, true, true, false, true, false] (bodyOf Try.f178 spec_BitsOf.cuts) []
def spec_BitsOf.N0 (x1 : Int) (x6z : Bool) (x6 : List Int) (x7 : Bool) (x16z : Bool) (x16 : List Int) (x17 : Int) (x18 : Int) : St := stOf 38 38 2 [(1, .val (V.s (.int .i64 x1))), (6, .val ⟨(.nums 5 .u8 x6z x6), [.l 6 0], true, some (.l 6 0)⟩), (7, .val (V.s (.bool x7))), (16, .val ⟨(.nums 3 .i64 x16z x16), [], false, none⟩), (17, .val (V.s (.int .i64 x17))), (18, .val (V.s (.int .i64 x18)))] []
theorem spec_BitsOf.s (k : Nat) (a0z : Bool) (a0 : List Int) (a1 : Int) : answer Try.prog spec_BitsOf.Cs 100000 spec_BitsOf.cuts [] Try.f178 (k + 1) [.v (.nums 3 .i64 a0z a0), .v (.int .i64 a1)] = spec_BitsOf.b (fun r => some (spec_BitsOf.enc r)) (fun x1 x6z x6 x7 x16z x16 x17 x18 => rounds Try.prog spec_BitsOf.Cs (finish Try.prog [] Try.f178 [.v (.nums 3 .i64 a0z a0), .v (.int .i64 a1)]) 100000 k spec_BitsOf.K0 (spec_BitsOf.N0 x1 x6z x6 x7 x16z x16 x17 x18)) k a0z a0 a1 := by kernel_rfl
theorem spec_BitsOf.s0 (k : Nat) (G : List Fr → St → Option Res) (a0z : Bool) (a0 : List Int) (a1 : Int) (yx1 : Int) (yx6z : Bool) (yx6 : List Int) (yx7 : Bool) (yx16z : Bool) (yx16 : List Int) (yx17 : Int) (yx18 : Int) : resume Try.prog (spec_BitsOf.Cs k) G (finish Try.prog [] Try.f178 [.v (.nums 3 .i64 a0z a0), .v (.int .i64 a1)]) 100000 spec_BitsOf.K0 (spec_BitsOf.N0 yx1 yx6z yx6 yx7 yx16z yx16 yx17 yx18) = spec_BitsOf.l0b (fun r => some (spec_BitsOf.enc r)) (fun x1 x6z x6 x7 x16z x16 x17 x18 => G spec_BitsOf.K0 (spec_BitsOf.N0 x1 x6z x6 x7 x16z x16 x17 x18)) k yx1 yx6z yx6 yx7 yx16z yx16 yx17 yx18 := by kernel_rfl
theorem spec_BitsOf.b_nat {R R' : Type} (e : R → R') (ret : Bool × (List Int) × Bool → Option R) (j0 : Int → Bool → (List Int) → Bool → Bool → (List Int) → Int → Int → Option R) (k : Nat) (a0z : Bool) (a0 : List Int) (a1 : Int) : spec_BitsOf.b (fun r => (ret r).map e) (fun x1 x6z x6 x7 x16z x16 x17 x18 => (j0 x1 x6z x6 x7 x16z x16 x17 x18).map e) k a0z a0 a1 = (spec_BitsOf.b ret j0 k a0z a0 a1).map e := by
  unfold spec_BitsOf.b
  repeat' first | with_reducible refine nat_cond ?_ ?_ | with_reducible refine nat_bind fun _ => ?_ | rfl
theorem spec_BitsOf.l0b_nat {R R' : Type} (e : R → R') (ret : Bool × (List Int) × Bool → Option R) (j0 : Int → Bool → (List Int) → Bool → Bool → (List Int) → Int → Int → Option R) (k : Nat) (x1 : Int) (x6z : Bool) (x6 : List Int) (x7 : Bool) (x16z : Bool) (x16 : List Int) (x17 : Int) (x18 : Int) : spec_BitsOf.l0b (fun r => (ret r).map e) (fun x1 x6z x6 x7 x16z x16 x17 x18 => (j0 x1 x6z x6 x7 x16z x16 x17 x18).map e) k x1 x6z x6 x7 x16z x16 x17 x18 = (spec_BitsOf.l0b ret j0 k x1 x6z x6 x7 x16z x16 x17 x18).map e := by
  unfold spec_BitsOf.l0b
  repeat' first | with_reducible refine nat_cond ?_ ?_ | with_reducible refine nat_bind fun _ => ?_ | rfl
theorem spec_BitsOf.rounds_eq (a0z : Bool) (a0 : List Int) (a1 : Int) : ∀ k, (∀ (x1 : Int) (x6z : Bool) (x6 : List Int) (x7 : Bool) (x16z : Bool) (x16 : List Int) (x17 : Int) (x18 : Int), rounds Try.prog spec_BitsOf.Cs (finish Try.prog [] Try.f178 [.v (.nums 3 .i64 a0z a0), .v (.int .i64 a1)]) 100000 k spec_BitsOf.K0 (spec_BitsOf.N0 x1 x6z x6 x7 x16z x16 x17 x18) = (spec_BitsOf.l0 k x1 x6z x6 x7 x16z x16 x17 x18).map spec_BitsOf.enc)
  | 0 => fun _ _ _ _ _ _ _ _ => rfl
  | k + 1 => by
    have ih := spec_BitsOf.rounds_eq a0z a0 a1 k
    refine fun _ _ _ _ _ _ _ _ => ?_
    · refine (spec_BitsOf.s0 k _ a0z a0 a1 _ _ _ _ _ _ _ _).trans (Eq.trans ?_ (spec_BitsOf.l0b_nat spec_BitsOf.enc some (spec_BitsOf.l0 k) k _ _ _ _ _ _ _ _))
      simp only [ih, Option.map_some]
theorem spec_BitsOf.eq (k : Nat) (a0z : Bool) (a0 : List Int) (a1 : Int) : answer Try.prog spec_BitsOf.Cs 100000 spec_BitsOf.cuts [] Try.f178 (k + 1) [.v (.nums 3 .i64 a0z a0), .v (.int .i64 a1)] = (spec_BitsOf.f (k + 1) a0z a0 a1).map spec_BitsOf.enc := by
  have ih := spec_BitsOf.rounds_eq a0z a0 a1 k
  refine (spec_BitsOf.s k a0z a0 a1).trans (Eq.trans ?_ (spec_BitsOf.b_nat spec_BitsOf.enc some (spec_BitsOf.l0 k) k a0z a0 a1))
  simp only [ih, Option.map_some]
theorem spec_BitsOf.sound (k : Nat) : SoundF Try.prog 178 (fun a => (spec_BitsOf.ans k a).val) := by
  refine sound_plain (fun args res h => ?_) (fun t n => rfl)
  unfold spec_BitsOf.ans at h
  dsimp only at h
  split at h
  · cases k with
    | zero => cases h
    | succ k =>
      unfold Ans.val at h
      rw [← spec_BitsOf.eq] at h
      exact answer_sound mixed Try.func178 _ _ _ (k + 1) (fun j _ => tab_sound (tab_cons (spec_l02Signers.sound j) (tab_cons (spec_BitsNew.sound j) (tab_cons (spec_BitsSet.sound j) (tab_nil))))) _ _ h
  · exact (Ans.no_val h).elim

/-! loop.example/g00790/spec.l28Bits -/
def spec_l28Bits.b {R : Type} (ret : Bool × List Int → Option R) (k : Nat) (a0 : Int) (a1z : Bool) (a1 : List Int) : Option R :=
  (spec_BitsOf.f k a1z a1 a0).bind fun t0 => ret (t0.1, t0.2.1)
def spec_l28Bits.f : Nat → Int → Bool → (List Int) → Option (Bool × List Int)
  | 0, _, _, _ => none
  | k + 1, a0, a1z, a1 => spec_l28Bits.b some k a0 a1z a1
def spec_l28Bits.enc (r : Bool × List Int) : Res := ⟨[.vals false [((.nums 5 .u8 r.1 r.2), true)]], []⟩
def spec_l28Bits.ans (k : Nat) : List Arg → Ans
  | [.v (.int .i64 a0), .v (.nums 3 .i64 a1z a1)] => ⟨spec_l28Bits.f k a0 a1z a1, spec_l28Bits.enc⟩
  | _ => Ans.no
def spec_l28Bits.Cs (k : Nat) : CallSem := tab [(178, spec_BitsOf.ans k)]
def spec_l28Bits.cuts : List (Nat × Keep) := []
theorem spec_l28Bits.s (k : Nat) (a0 : Int) (a1z : Bool) (a1 : List Int) : answer Try.prog spec_l28Bits.Cs 100000 spec_l28Bits.cuts [] Try.f146 (k + 1) [.v (.int .i64 a0), .v (.nums 3 .i64 a1z a1)] = spec_l28Bits.b (fun r => some (spec_l28Bits.enc r)) k a0 a1z a1 := by kernel_rfl
theorem spec_l28Bits.b_nat {R R' : Type} (e : R → R') (ret : Bool × List Int → Option R) (k : Nat) (a0 : Int) (a1z : Bool) (a1 : List Int) : spec_l28Bits.b (fun r => (ret r).map e) k a0 a1z a1 = (spec_l28Bits.b ret k a0 a1z a1).map e := by
  unfold spec_l28Bits.b
  repeat' first | with_reducible refine nat_cond ?_ ?_ | with_reducible refine nat_bind fun _ => ?_ | rfl
theorem spec_l28Bits.eq (k : Nat) (a0 : Int) (a1z : Bool) (a1 : List Int) : answer Try.prog spec_l28Bits.Cs 100000 spec_l28Bits.cuts [] Try.f146 (k + 1) [.v (.int .i64 a0), .v (.nums 3 .i64 a1z a1)] = (spec_l28Bits.f (k + 1) a0 a1z a1).map spec_l28Bits.enc := by
  refine (spec_l28Bits.s k a0 a1z a1).trans (Eq.trans ?_ (spec_l28Bits.b_nat spec_l28Bits.enc some k a0 a1z a1))
  simp only [Option.map_some]
theorem spec_l28Bits.sound (k : Nat) : SoundF Try.prog 146 (fun a => (spec_l28Bits.ans k a).val) := by
  refine sound_plain (fun args res h => ?_) (fun t n => rfl)
  unfold spec_l28Bits.ans at h
  dsimp only at h
  split at h
  · cases k with
    | zero => cases h
    | succ k =>
      unfold Ans.val at h
      rw [← spec_l28Bits.eq] at h
      exact answer_sound mixed Try.func146 _ _ _ (k + 1) (fun j _ => tab_sound (tab_cons (spec_BitsOf.sound j) (tab_nil))) _ _ h
  · exact (Ans.no_val h).elim

/-! loop.example/g00790/spec.Tally -/
def spec_Tally.b {R : Type} (ret : Bool × List Int → Option R) (j0 : Int → Bool → (List Int) → (List Int) → Bool → (List T) → Int → Int → Bool → (List T) → Option R) (k : Nat) (a0_0z : Bool) (a0_0 : List T) (a1z : Bool) (a1 : List T) (a2 : Int) (a3z : Bool) (a3 : List Int) : Option R :=
  (spec_TableOk.f k a0_0z a0_0).bind fun t0 => cond (!t0) (ret (true, ([] : List Int))) (j0 a2 a3z a3 ([] : List Int) a1z a1 ((a1).length : Int) 0 a0_0z a0_0)
def spec_Tally.l0b {R : Type} (ret : Bool × List Int → Option R) (j0 : Int → Bool → (List Int) → (List Int) → Bool → (List T) → Int → Int → Bool → (List T) → Option R) (k : Nat) (x2 : Int) (x3z : Bool) (x3 : List Int) (x9 : List Int) (x16z : Bool) (x16 : List T) (x17 : Int) (x18 : Int) (c4_0z : Bool) (c4_0 : List T) : Option R :=
  cond (decide (x18 < x17)) (cond (decide ((0 : Int) ≤ x18)) (cond (decide (x18 < ((x16).length : Int))) (cond (decide (((((x16).getD (x18).toNat .bad).cells.getD 0 .bad)).toInt = x2)) ((spec_SameBytes.f k (((((x16).getD (x18).toNat .bad).cells.getD 2 .bad)).isNil) (((((x16).getD (x18).toNat .bad).cells.getD 2 .bad)).toNums) x3z x3).bind fun t0 => cond t0 ((spec_VoteGood.f k c4_0z c4_0 (((((x16).getD (x18).toNat .bad).cells.getD 0 .bad)).toInt) (((((x16).getD (x18).toNat .bad).cells.getD 1 .bad)).toInt) (((((x16).getD (x18).toNat .bad).cells.getD 2 .bad)).isNil) (((((x16).getD (x18).toNat .bad).cells.getD 2 .bad)).toNums) (((((x16).getD (x18).toNat .bad).cells.getD 3 .bad)).toInt) (((((x16).getD (x18).toNat .bad).cells.getD 4 .bad)).isNil) (((((x16).getD (x18).toNat .bad).cells.getD 4 .bad)).toNums)).bind fun t1 => cond t1 (cond (decide ((x9).length + 1 < 17592186044416)) (j0 x2 x3z x3 (x9 ++ ([((((x16).getD (x18).toNat .bad).cells.getD 3 .bad)).toInt] : List Int)) x16z x16 x17 (RowKit.wrap64 (x18 + 1)) c4_0z c4_0) (none)) (j0 x2 x3z x3 x9 x16z x16 x17 (RowKit.wrap64 (x18 + 1)) c4_0z c4_0)) (j0 x2 x3z x3 x9 x16z x16 x17 (RowKit.wrap64 (x18 + 1)) c4_0z c4_0)) (j0 x2 x3z x3 x9 x16z x16 x17 (RowKit.wrap64 (x18 + 1)) c4_0z c4_0)) (none)) (none)) ((spec_l28Bits.f k ((c4_0).length : Int) false x9).bind fun t0 => ret (t0.1, t0.2))
def spec_Tally.l0 : Nat → Int → Bool → (List Int) → (List Int) → Bool → (List T) → Int → Int → Bool → (List T) → Option (Bool × List Int)
  | 0, _, _, _, _, _, _, _, _, _, _ => none
  | k + 1, x2, x3z, x3, x9, x16z, x16, x17, x18, c4_0z, c4_0 => spec_Tally.l0b some (spec_Tally.l0 k) k x2 x3z x3 x9 x16z x16 x17 x18 c4_0z c4_0
def spec_Tally.f : Nat → Bool → (List T) → Bool → (List T) → Int → Bool → (List Int) → Option (Bool × List Int)
  | 0, _, _, _, _, _, _, _ => none
  | k + 1, a0_0z, a0_0, a1z, a1, a2, a3z, a3 => spec_Tally.b some (spec_Tally.l0 k) k a0_0z a0_0 a1z a1 a2 a3z a3
def spec_Tally.enc (r : Bool × List Int) : Res := ⟨[.vals false [((.nums 5 .u8 r.1 r.2), true)]], []⟩
def spec_Tally.ans (k : Nat) : List Arg → Ans
  | [.v (.agg [(.sl 160 a0_0z a0_0)]), .v (.sl 93 a1z a1), .v (.int .i64 a2), .v (.nums 5 .u8 a3z a3)] => ⟨spec_Tally.f k a0_0z a0_0 a1z a1 a2 a3z a3, spec_Tally.enc⟩
  | _ => Ans.no
def spec_Tally.Cs (k : Nat) : CallSem := tab [(121, spec_TableOk.ans k), (82, spec_SameBytes.ans k), (101, spec_VoteGood.ans k), (146, spec_l28Bits.ans k)]
def spec_Tally.cuts : List (Nat × Keep) := [(122, ⟨[(2, some []), (3, some []), (4, some []), (9, none), (16, some []), (17, some []), (18, some [])], [(4, [some []])]⟩)]
noncomputable def spec_Tally.K0 : List Fr := framesAt [true, true, true, false, true, false] (bodyOf Try.f69 spec_Tally.cuts) []
def spec_Tally.N0 (x2 : Int) (x3z : Bool) (x3 : List Int) (x9 : List Int) (x16z : Bool) (x16 : List T) (x17 : Int) (x18 : Int) (c4_0z : Bool) (c4_0 : List T) : St := stOf 48 48 4 [(2, .val (V.s (.int .i64 x2))), (3, .val ⟨(.nums 5 .u8 x3z x3), [], false, none⟩), (4, .bp 4 0), (9, .val ⟨(.nums 3 .i64 false x9), [.l 9 0], true, some (.l 9 0)⟩), (16, .val ⟨(.sl 93 x16z x16), [], false, none⟩), (17, .val (V.s (.int .i64 x17))), (18, .val (V.s (.int .i64 x18)))] [(4, .cells [⟨(.sl 160 c4_0z c4_0), [], false, none⟩])]
theorem spec_Tally.s (k : Nat) (a0_0z : Bool) (a0_0 : List T) (a1z : Bool) (a1 : List T) (a2 : Int) (a3z : Bool) (a3 : List Int) : answer Try.prog spec_Tally.Cs 100000 spec_Tally.cuts [] Try.f69 (k + 1) [.v (.agg [(.sl 160 a0_0z a0_0)]), .v (.sl 93 a1z a1), .v (.int .i64 a2), .v (.nums 5 .u8 a3z a3)] = spec_Tally.b (fun r => some (spec_Tally.enc r)) (fun x2 x3z x3 x9 x16z x16 x17 x18 c4_0z c4_0 => rounds Try.prog spec_Tally.Cs (finish Try.prog [] Try.f69 [.v (.agg [(.sl 160 a0_0z a0_0)]), .v (.sl 93 a1z a1), .v (.int .i64 a2), .v (.nums 5 .u8 a3z a3)]) 100000 k spec_Tally.K0 (spec_Tally.N0 x2 x3z x3 x9 x16z x16 x17 x18 c4_0z c4_0)) k a0_0z a0_0 a1z a1 a2 a3z a3 := by kernel_rfl
theorem spec_Tally.s0 (k : Nat) (G : List Fr → St → Option Res) (a0_0z : Bool) (a0_0 : List T) (a1z : Bool) (a1 : List T) (a2 : Int) (a3z : Bool) (a3 : List Int) (yx2 : Int) (yx3z : Bool) (yx3 : List Int) (yx9 : List Int) (yx16z : Bool) (yx16 : List T) (yx17 : Int) (yx18 : Int) (yc4_0z : Bool) (yc4_0 : List T) : resume Try.prog (spec_Tally.Cs k) G (finish Try.prog [] Try.f69 [.v (.agg [(.sl 160 a0_0z a0_0)]), .v (.sl 93 a1z a1), .v (.int .i64 a2), .v (.nums 5 .u8 a3z a3)]) 100000 spec_Tally.K0 (spec_Tally.N0 yx2 yx3z yx3 yx9 yx16z yx16 yx17 yx18 yc4_0z yc4_0) = spec_Tally.l0b (fun r => some (spec_Tally.enc r)) (fun x2 x3z x3 x9 x16z x16 x17 x18 c4_0z c4_0 => G spec_Tally.K0 (spec_Tally.N0 x2 x3z x3 x9 x16z x16 x17 x18 c4_0z c4_0)) k yx2 yx3z yx3 yx9 yx16z yx16 yx17 yx18 yc4_0z yc4_0 := by kernel_rfl
theorem spec_Tally.b_nat {R R' : Type} (e : R → R') (ret : Bool × List Int → Option R) (j0 : Int → Bool → (List Int) → (List Int) → Bool → (List T) → Int → Int → Bool → (List T) → Option R) (k : Nat) (a0_0z : Bool) (a0_0 : List T) (a1z : Bool) (a1 : List T) (a2 : Int) (a3z : Bool) (a3 : List Int) : spec_Tally.b (fun r => (ret r).map e) (fun x2 x3z x3 x9 x16z x16 x17 x18 c4_0z c4_0 => (j0 x2 x3z x3 x9 x16z x16 x17 x18 c4_0z c4_0).map e) k a0_0z a0_0 a1z a1 a2 a3z a3 = (spec_Tally.b ret j0 k a0_0z a0_0 a1z a1 a2 a3z a3).map e := by
  unfold spec_Tally.b
  repeat' first | with_reducible refine nat_cond ?_ ?_ | with_reducible refine nat_bind fun _ => ?_ | rfl
theorem spec_Tally.l0b_nat {R R' : Type} (e : R → R') (ret : Bool × List Int → Option R) (j0 : Int → Bool → (List Int) → (List Int) → Bool → (List T) → Int → Int → Bool → (List T) → Option R) (k : Nat) (x2 : Int) (x3z : Bool) (x3 : List Int) (x9 : List Int) (x16z : Bool) (x16 : List T) (x17 : Int) (x18 : Int) (c4_0z : Bool) (c4_0 : List T) : spec_Tally.l0b (fun r => (ret r).map e) (fun x2 x3z x3 x9 x16z x16 x17 x18 c4_0z c4_0 => (j0 x2 x3z x3 x9 x16z x16 x17 x18 c4_0z c4_0).map e) k x2 x3z x3 x9 x16z x16 x17 x18 c4_0z c4_0 = (spec_Tally.l0b ret j0 k x2 x3z x3 x9 x16z x16 x17 x18 c4_0z c4_0).map e := by
  unfold spec_Tally.l0b
  repeat' first | with_reducible refine nat_cond ?_ ?_ | with_reducible refine nat_bind fun _ => ?_ | rfl
theorem spec_Tally.rounds_eq (a0_0z : Bool) (a0_0 : List T) (a1z : Bool) (a1 : List T) (a2 : Int) (a3z : Bool) (a3 : List Int) : ∀ k, (∀ (x2 : Int) (x3z : Bool) (x3 : List Int) (x9 : List Int) (x16z : Bool) (x16 : List T) (x17 : Int) (x18 : Int) (c4_0z : Bool) (c4_0 : List T), rounds Try.prog spec_Tally.Cs (finish Try.prog [] Try.f69 [.v (.agg [(.sl 160 a0_0z a0_0)]), .v (.sl 93 a1z a1), .v (.int .i64 a2), .v (.nums 5 .u8 a3z a3)]) 100000 k spec_Tally.K0 (spec_Tally.N0 x2 x3z x3 x9 x16z x16 x17 x18 c4_0z c4_0) = (spec_Tally.l0 k x2 x3z x3 x9 x16z x16 x17 x18 c4_0z c4_0).map spec_Tally.enc)
  | 0 => fun _ _ _ _ _ _ _ _ _ _ => rfl
  | k + 1 => by
    have ih := spec_Tally.rounds_eq a0_0z a0_0 a1z a1 a2 a3z a3 k
    refine fun _ _ _ _ _ _ _ _ _ _ => ?_
    · refine (spec_Tally.s0 k _ a0_0z a0_0 a1z a1 a2 a3z a3 _ _ _ _ _ _ _ _ _ _).trans (Eq.trans ?_ (spec_Tally.l0b_nat spec_Tally.enc some (spec_Tally.l0 k) k _ _ _ _ _ _ _ _ _ _))
      simp only [ih, Option.map_some]
theorem spec_Tally.eq (k : Nat) (a0_0z : Bool) (a0_0 : List T) (a1z : Bool) (a1 : List T) (a2 : Int) (a3z : Bool) (a3 : List Int) : answer Try.prog spec_Tally.Cs 100000 spec_Tally.cuts [] Try.f69 (k + 1) [.v (.agg [(.sl 160 a0_0z a0_0)]), .v (.sl 93 a1z a1), .v (.int .i64 a2), .v (.nums 5 .u8 a3z a3)] = (spec_Tally.f (k + 1) a0_0z a0_0 a1z a1 a2 a3z a3).map spec_Tally.enc := by
  have ih := spec_Tally.rounds_eq a0_0z a0_0 a1z a1 a2 a3z a3 k
  refine (spec_Tally.s k a0_0z a0_0 a1z a1 a2 a3z a3).trans (Eq.trans ?_ (spec_Tally.b_nat spec_Tally.enc some (spec_Tally.l0 k) k a0_0z a0_0 a1z a1 a2 a3z a3))
  simp only [ih, Option.map_some]
theorem spec_Tally.sound (k : Nat) : SoundF Try.prog 69 (fun a => (spec_Tally.ans k a).val) := by
  refine sound_plain (fun args res h => ?_) (fun t n => rfl)
  unfold spec_Tally.ans at h
  dsimp only at h
  split at h
  · cases k with
    | zero => cases h
    | succ k =>
      unfold Ans.val at h
      rw [← spec_Tally.eq] at h
      exact answer_sound mixed Try.func69 _ _ _ (k + 1) (fun j _ => tab_sound (tab_cons (spec_TableOk.sound j) (tab_cons (spec_SameBytes.sound j) (tab_cons (spec_VoteGood.sound j) (tab_cons (spec_l28Bits.sound j) (tab_nil)))))) _ _ h
  · exact (Ans.no_val h).elim

/-! loop.example/g00790/impl.within -/
def impl_within.b {R : Type} (ret : Bool → Option R) (k : Nat) (a0 : Int) (a1 : Int) (a2 : Int) : Option R :=
  cond (decide (a1 ≤ a0)) (ret (decide (a0 ≤ a2))) (ret false)
def impl_within.f : Nat → Int → Int → Int → Option Bool
  | 0, _, _, _ => none
  | k + 1, a0, a1, a2 => impl_within.b some k a0 a1 a2
def impl_within.enc (r : Bool) : Res := ⟨[.vals false [((.bool r), true)]], []⟩
def impl_within.ans (k : Nat) : List Arg → Ans
  | [.v (.int .i64 a0), .v (.int .i64 a1), .v (.int .i64 a2)] => ⟨impl_within.f k a0 a1 a2, impl_within.enc⟩
  | _ => Ans.no
def impl_within.Cs (k : Nat) : CallSem := tab []
def impl_within.cuts : List (Nat × Keep) := []
theorem impl_within.s (k : Nat) (a0 : Int) (a1 : Int) (a2 : Int) : answer Try.prog impl_within.Cs 100000 impl_within.cuts [] Try.f126 (k + 1) [.v (.int .i64 a0), .v (.int .i64 a1), .v (.int .i64 a2)] = impl_within.b (fun r => some (impl_within.enc r)) k a0 a1 a2 := by kernel_rfl
theorem impl_within.b_nat {R R' : Type} (e : R → R') (ret : Bool → Option R) (k : Nat) (a0 : Int) (a1 : Int) (a2 : Int) : impl_within.b (fun r => (ret r).map e) k a0 a1 a2 = (impl_within.b ret k a0 a1 a2).map e := by
  unfold impl_within.b
  repeat' first | with_reducible refine nat_cond ?_ ?_ | with_reducible refine nat_bind fun _ => ?_ | rfl
theorem impl_within.eq (k : Nat) (a0 : Int) (a1 : Int) (a2 : Int) : answer Try.prog impl_within.Cs 100000 impl_within.cuts [] Try.f126 (k + 1) [.v (.int .i64 a0), .v (.int .i64 a1), .v (.int .i64 a2)] = (impl_within.f (k + 1) a0 a1 a2).map impl_within.enc := by
  refine (impl_within.s k a0 a1 a2).trans (Eq.trans ?_ (impl_within.b_nat impl_within.enc some k a0 a1 a2))
  simp only [Option.map_some]
theorem impl_within.sound (k : Nat) : SoundF Try.prog 126 (fun a => (impl_within.ans k a).val) := by
  refine sound_plain (fun args res h => ?_) (fun t n => rfl)
  unfold impl_within.ans at h
  dsimp only at h
  split at h
  · cases k with
    | zero => cases h
    | succ k =>
      unfold Ans.val at h
      rw [← impl_within.eq] at h
      exact answer_sound mixed Try.func126 _ _ _ (k + 1) (fun j _ => tab_sound (tab_nil)) _ _ h
  · exact (Ans.no_val h).elim

end Go.Proofs.YtadnejogdohfkaaG
