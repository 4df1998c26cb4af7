/- What the functions compute, printed by a program of this repo; each is shown to be what the machine of values answers. Names are short, for the claim's size. No condition. -/
import Derived.Test.YthocpcfjfgnkgaaGreatProg
import Derived.KernelRfl
import Derived.Test.YthocpcfjfgnkgaaGreatGFnExactClosea
namespace Go.Proofs.YthocpcfjfgnkgaaGreatG
open Go Go.Proofs.YthocpcfjfgnkgaaGreatRv Go.Proofs Go.RowKit
set_option linter.unusedVariables false
set_option linter.unusedSimpArgs false
def Xa.b {R : Type} (ret : Bool × List Int -> Option R) (j0 : Bool -> (List Int) -> Bool -> (List Int) -> Bool -> (List Int) -> Int -> Int -> Option R) (j1 : Bool -> (List Int) -> Bool -> (List Int) -> (List Int) -> Int -> Option R) (j2 : Bool -> (List Int) -> (List Int) -> Int -> Option R) (j3 : Bool -> (List Int) -> (List Int) -> Bool -> (List Int) -> Bool -> (List Int) -> Int -> Option R) (j4 : Bool -> (List Int) -> Bool -> (List Int) -> (List Int) -> Int -> Int -> Option R) (k : Nat) (q : Bool) (p : List Int) (u : Bool) (s : List Int) : Option R :=
 cond (!(decide (((p).length : Int) = 8))) (ret (true, ([] : List Int))) (cond (!(decide (((s).length : Int) = 64))) (ret (true, ([] : List Int))) (j0 q p u s q p ((p).length : Int) 0))
def Xa.l0b {R : Type} (ret : Bool × List Int -> Option R) (j0 : Bool -> (List Int) -> Bool -> (List Int) -> Bool -> (List Int) -> Int -> Int -> Option R) (j1 : Bool -> (List Int) -> Bool -> (List Int) -> (List Int) -> Int -> Option R) (j2 : Bool -> (List Int) -> (List Int) -> Int -> Option R) (j3 : Bool -> (List Int) -> (List Int) -> Bool -> (List Int) -> Bool -> (List Int) -> Int -> Option R) (j4 : Bool -> (List Int) -> Bool -> (List Int) -> (List Int) -> Int -> Int -> Option R) (k : Nat) (c : Bool) (b : List Int) (i : Bool) (g : List Int) (a4 : Bool) (a0 : List Int) (a2 : Int) (y : Int) : Option R :=
 cond (decide (y < a2)) (cond (decide ((0 : Int) <= y)) (cond (decide (y < ((a0).length : Int))) ((Ybf.f k (rdI a0 y)).bind fun a8 => cond (!a8) (ret (true, ([] : List Int))) (j0 c b i g a4 a0 a2 (wrap64 (y + 1)))) (none)) (none)) (j1 c b i g ([] : List Int) 0)
def Xa.l1b {R : Type} (ret : Bool × List Int -> Option R) (j0 : Bool -> (List Int) -> Bool -> (List Int) -> Bool -> (List Int) -> Int -> Int -> Option R) (j1 : Bool -> (List Int) -> Bool -> (List Int) -> (List Int) -> Int -> Option R) (j2 : Bool -> (List Int) -> (List Int) -> Int -> Option R) (j3 : Bool -> (List Int) -> (List Int) -> Bool -> (List Int) -> Bool -> (List Int) -> Int -> Option R) (j4 : Bool -> (List Int) -> Bool -> (List Int) -> (List Int) -> Int -> Int -> Option R) (k : Nat) (c : Bool) (b : List Int) (i : Bool) (g : List Int) (d : List Int) (o : Int) : Option R :=
 cond (decide (o < 64)) (cond (decide ((0 : Int) <= o)) (cond (decide (o < ((g).length : Int))) (cond (decide ((0 : Int) <= (wrap64 (o + 1)))) (cond (decide ((wrap64 (o + 1)) < ((g).length : Int))) (cond (decide ((0 : Int) <= (wrap64 (o + 2)))) (cond (decide ((wrap64 (o + 2)) < ((g).length : Int))) (cond (decide ((0 : Int) <= (wrap64 (o + 3)))) (cond (decide ((wrap64 (o + 3)) < ((g).length : Int))) (cond (decide ((d).length + 1 < 17592186044416)) (j1 c b i g (d ++ ([(Go.bits .or .i64 (Go.bits .or .i64 (Go.bits .or .i64 (shlI .i64 (wrap64 ((rdI g o))) 24) (shlI .i64 (wrap64 ((rdI g (wrap64 (o + 1))))) 16)) (shlI .i64 (wrap64 ((rdI g (wrap64 (o + 2))))) 8)) (wrap64 ((rdI g (wrap64 (o + 3))))))] : List Int)) (wrap64 (o + 4))) (none)) (none)) (none)) (none)) (none)) (none)) (none)) (none)) (none)) (j2 c b d 16)
def Xa.l2b {R : Type} (ret : Bool × List Int -> Option R) (j0 : Bool -> (List Int) -> Bool -> (List Int) -> Bool -> (List Int) -> Int -> Int -> Option R) (j1 : Bool -> (List Int) -> Bool -> (List Int) -> (List Int) -> Int -> Option R) (j2 : Bool -> (List Int) -> (List Int) -> Int -> Option R) (j3 : Bool -> (List Int) -> (List Int) -> Bool -> (List Int) -> Bool -> (List Int) -> Int -> Option R) (j4 : Bool -> (List Int) -> Bool -> (List Int) -> (List Int) -> Int -> Int -> Option R) (k : Nat) (c : Bool) (b : List Int) (d : List Int) (m : Int) : Option R :=
 cond (decide (m < 64)) (cond (decide ((0 : Int) <= (wrap64 (m - 15)))) (cond (decide ((wrap64 (m - 15)) < ((d).length : Int))) (cond (decide ((0 : Int) <= (wrap64 (m - 2)))) (cond (decide ((wrap64 (m - 2)) < ((d).length : Int))) ((Yan.f k (rdI d (wrap64 (m - 15))) 7).bind fun a8 => (Yan.f k (rdI d (wrap64 (m - 15))) 18).bind fun b4 => (Yan.f k (rdI d (wrap64 (m - 2))) 17).bind fun b5 => (Yan.f k (rdI d (wrap64 (m - 2))) 19).bind fun b6 => cond (decide ((0 : Int) <= (wrap64 (m - 16)))) (cond (decide ((wrap64 (m - 16)) < ((d).length : Int))) (cond (decide ((0 : Int) <= (wrap64 (m - 7)))) (cond (decide ((wrap64 (m - 7)) < ((d).length : Int))) (cond (decide ((d).length + 1 < 17592186044416)) (j2 c b (d ++ ([(Go.bits .and .i64 (wrap64 ((wrap64 ((wrap64 ((rdI d (wrap64 (m - 16))) + (Go.bits .xor .i64 (Go.bits .xor .i64 a8 b4) (shrI .i64 (rdI d (wrap64 (m - 15))) 3)))) + (rdI d (wrap64 (m - 7))))) + (Go.bits .xor .i64 (Go.bits .xor .i64 b5 b6) (shrI .i64 (rdI d (wrap64 (m - 2))) 10)))) 4294967295)] : List Int)) (wrap64 (m + 1))) (none)) (none)) (none)) (none)) (none)) (none)) (none)) (none)) (none)) ((Ybg.f k).bind fun a8 => cond (decide (0 + (b).length < 17592186044416)) (j3 c b d a8.1 a8.2 ((b).isEmpty && false) b 0) (none))
def Xa.l3b {R : Type} (ret : Bool × List Int -> Option R) (j0 : Bool -> (List Int) -> Bool -> (List Int) -> Bool -> (List Int) -> Int -> Int -> Option R) (j1 : Bool -> (List Int) -> Bool -> (List Int) -> (List Int) -> Int -> Option R) (j2 : Bool -> (List Int) -> (List Int) -> Int -> Option R) (j3 : Bool -> (List Int) -> (List Int) -> Bool -> (List Int) -> Bool -> (List Int) -> Int -> Option R) (j4 : Bool -> (List Int) -> Bool -> (List Int) -> (List Int) -> Int -> Int -> Option R) (k : Nat) (c : Bool) (b : List Int) (d : List Int) (a5 : Bool) (z : List Int) (l : Bool) (f : List Int) (v : Int) : Option R :=
 cond (decide (v < 64)) (cond (decide ((4 : Int) < ((f).length : Int))) (cond (decide ((0 : Int) < ((f).length : Int))) (cond (decide ((7 : Int) < ((f).length : Int))) ((Yan.f k (rdI f 4) 6).bind fun a8 => (Yan.f k (rdI f 4) 11).bind fun b4 => (Yan.f k (rdI f 4) 25).bind fun b5 => cond (decide ((5 : Int) < ((f).length : Int))) (cond (decide ((6 : Int) < ((f).length : Int))) (cond (decide ((0 : Int) <= v)) (cond (decide (v < ((z).length : Int))) (cond (decide ((0 : Int) <= v)) (cond (decide (v < ((d).length : Int))) ((Yan.f k (rdI f 0) 2).bind fun b6 => (Yan.f k (rdI f 0) 13).bind fun c9 => (Yan.f k (rdI f 0) 22).bind fun d0 => cond (decide ((1 : Int) < ((f).length : Int))) (cond (decide ((2 : Int) < ((f).length : Int))) (cond (decide ((1 : Int) < ((f).length : Int))) (cond (decide ((2 : Int) < ((f).length : Int))) (cond (decide ((0 : Int) < ((f).length : Int))) (cond (decide ((1 : Int) < ((f).length : Int))) (cond (decide ((2 : Int) < ((f).length : Int))) (cond (decide ((3 : Int) < ((f).length : Int))) (cond (decide ((4 : Int) < ((f).length : Int))) (cond (decide ((5 : Int) < ((f).length : Int))) (cond (decide ((6 : Int) < ((f).length : Int))) (j3 c b d a5 z false ([(Go.bits .and .i64 (wrap64 ((wrap64 ((wrap64 ((wrap64 ((wrap64 ((rdI f 7) + (Go.bits .xor .i64 (Go.bits .xor .i64 a8 b4) b5))) + (Go.bits .xor .i64 (Go.bits .and .i64 (rdI f 4) (rdI f 5)) (Go.bits .and .i64 (Go.bits .xor .i64 4294967295 (rdI f 4)) (rdI f 6))))) + (rdI z v))) + (rdI d v))) + (wrap64 ((Go.bits .xor .i64 (Go.bits .xor .i64 b6 c9) d0) + (Go.bits .xor .i64 (Go.bits .xor .i64 (Go.bits .and .i64 (rdI f 0) (rdI f 1)) (Go.bits .and .i64 (rdI f 0) (rdI f 2))) (Go.bits .and .i64 (rdI f 1) (rdI f 2))))))) 4294967295), (rdI f 0), (rdI f 1), (rdI f 2), (Go.bits .and .i64 (wrap64 ((rdI f 3) + (wrap64 ((wrap64 ((wrap64 ((wrap64 ((rdI f 7) + (Go.bits .xor .i64 (Go.bits .xor .i64 a8 b4) b5))) + (Go.bits .xor .i64 (Go.bits .and .i64 (rdI f 4) (rdI f 5)) (Go.bits .and .i64 (Go.bits .xor .i64 4294967295 (rdI f 4)) (rdI f 6))))) + (rdI z v))) + (rdI d v))))) 4294967295), (rdI f 4), (rdI f 5), (rdI f 6)] : List Int) (wrap64 (v + 1))) (none)) (none)) (none)) (none)) (none)) (none)) (none)) (none)) (none)) (none)) (none)) (none)) (none)) (none)) (none)) (none)) (none)) (none)) (none)) (none)) (j4 c b l f ([] : List Int) ((b).length : Int) 0)
def Xa.l4b {R : Type} (ret : Bool × List Int -> Option R) (j0 : Bool -> (List Int) -> Bool -> (List Int) -> Bool -> (List Int) -> Int -> Int -> Option R) (j1 : Bool -> (List Int) -> Bool -> (List Int) -> (List Int) -> Int -> Option R) (j2 : Bool -> (List Int) -> (List Int) -> Int -> Option R) (j3 : Bool -> (List Int) -> (List Int) -> Bool -> (List Int) -> Bool -> (List Int) -> Int -> Option R) (j4 : Bool -> (List Int) -> Bool -> (List Int) -> (List Int) -> Int -> Int -> Option R) (k : Nat) (c : Bool) (b : List Int) (l : Bool) (f : List Int) (a1 : List Int) (a3 : Int) (w : Int) : Option R :=
 cond (decide (w < a3)) (cond (decide ((0 : Int) <= w)) (cond (decide (w < ((b).length : Int))) (cond (decide ((0 : Int) <= w)) (cond (decide (w < ((f).length : Int))) (cond (decide ((a1).length + 1 < 17592186044416)) (j4 c b l f (a1 ++ ([(Go.bits .and .i64 (wrap64 ((rdI b w) + (rdI f w))) 4294967295)] : List Int)) a3 (wrap64 (w + 1))) (none)) (none)) (none)) (none)) (none)) (ret (false, a1))
mutual
def Xa.l0 : Nat -> Bool -> (List Int) -> Bool -> (List Int) -> Bool -> (List Int) -> Int -> Int -> Option (Bool × List Int)
 | 0, _, _, _, _, _, _, _, _ => none
 | k + 1, c, b, i, g, a4, a0, a2, y => Xa.l0b some (Xa.l0 k) (Xa.l1 k) (Xa.l2 k) (Xa.l3 k) (Xa.l4 k) k c b i g a4 a0 a2 y
def Xa.l1 : Nat -> Bool -> (List Int) -> Bool -> (List Int) -> (List Int) -> Int -> Option (Bool × List Int)
 | 0, _, _, _, _, _, _ => none
 | k + 1, c, b, i, g, d, o => Xa.l1b some (Xa.l0 k) (Xa.l1 k) (Xa.l2 k) (Xa.l3 k) (Xa.l4 k) k c b i g d o
def Xa.l2 : Nat -> Bool -> (List Int) -> (List Int) -> Int -> Option (Bool × List Int)
 | 0, _, _, _, _ => none
 | k + 1, c, b, d, m => Xa.l2b some (Xa.l0 k) (Xa.l1 k) (Xa.l2 k) (Xa.l3 k) (Xa.l4 k) k c b d m
def Xa.l3 : Nat -> Bool -> (List Int) -> (List Int) -> Bool -> (List Int) -> Bool -> (List Int) -> Int -> Option (Bool × List Int)
 | 0, _, _, _, _, _, _, _, _ => none
 | k + 1, c, b, d, a5, z, l, f, v => Xa.l3b some (Xa.l0 k) (Xa.l1 k) (Xa.l2 k) (Xa.l3 k) (Xa.l4 k) k c b d a5 z l f v
def Xa.l4 : Nat -> Bool -> (List Int) -> Bool -> (List Int) -> (List Int) -> Int -> Int -> Option (Bool × List Int)
 | 0, _, _, _, _, _, _, _ => none
 | k + 1, c, b, l, f, a1, a3, w => Xa.l4b some (Xa.l0 k) (Xa.l1 k) (Xa.l2 k) (Xa.l3 k) (Xa.l4 k) k c b l f a1 a3 w
end
def Xa.f : Nat -> Bool -> (List Int) -> Bool -> (List Int) -> Option (Bool × List Int)
 | 0, _, _, _, _ => none
 | k + 1, q, p, u, s => Xa.b some (Xa.l0 k) (Xa.l1 k) (Xa.l2 k) (Xa.l3 k) (Xa.l4 k) k q p u s
def Xa.enc (r : Bool × List Int) : Res := ⟨[.vals false [((.nums 3 .i64 r.1 r.2), true)]], []⟩
def Xa.ans (k : Nat) : List Arg -> Ans
 | [.v (.nums 3 .i64 q p), .v (.nums 5 .u8 u s)] => ⟨Xa.f k q p u s, Xa.enc⟩
 | _ => Ans.no
def Xa.Cs (k : Nat) : CallSem := tab [(149, Ybf.ans k), (150, Yan.ans k), (151, Ybg.ans k)]
def Xa.cuts : List (Nat × Keep) := [(58, ⟨[(0, some []), (1, some []), (31, some []), (32, some []), (33, some [])], []⟩), (250, ⟨[(0, some []), (1, some []), (7, none), (8, some [])], []⟩), (506, ⟨[(0, some []), (7, none), (9, some [])], []⟩), (4090, ⟨[(0, some []), (7, none), (14, none), (15, none), (16, some [])], []⟩), (16378, ⟨[(0, some []), (15, none), (21, none), (235, some []), (236, some [])], []⟩)]
noncomputable def Xa.K0 : List Fr := framesAt [true, true, false, true, false] (bodyOf Tryz.f138 Xa.cuts) []
def Xa.N0 (c : Bool) (b : List Int) (i : Bool) (g : List Int) (a4 : Bool) (a0 : List Int) (a2 : Int) (y : Int) : St := stOf 254 254 2 [(0, .val ⟨(.nums 3 .i64 c b), [], false, none⟩), (1, .val ⟨(.nums 5 .u8 i g), [], false, none⟩), (31, .val ⟨(.nums 3 .i64 a4 a0), [], false, none⟩), (32, .val (V.s (.int .i64 a2))), (33, .val (V.s (.int .i64 y)))] []
noncomputable def Xa.K1 : List Fr := framesAt [true, true, true, true, false, true, false] (bodyOf Tryz.f138 Xa.cuts) []
def Xa.N1 (c : Bool) (b : List Int) (i : Bool) (g : List Int) (d : List Int) (o : Int) : St := stOf 254 254 2 [(0, .val ⟨(.nums 3 .i64 c b), [], false, none⟩), (1, .val ⟨(.nums 5 .u8 i g), [], false, none⟩), (7, .val ⟨(.nums 3 .i64 false d), [.l 7 0], true, some (.l 7 0)⟩), (8, .val (V.s (.int .i64 o)))] []
noncomputable def Xa.K2 : List Fr := framesAt [true, true, true, true, true, false, true, false] (bodyOf Tryz.f138 Xa.cuts) []
def Xa.N2 (c : Bool) (b : List Int) (d : List Int) (m : Int) : St := stOf 254 254 2 [(0, .val ⟨(.nums 3 .i64 c b), [], false, none⟩), (7, .val ⟨(.nums 3 .i64 false d), [.l 7 0], true, some (.l 7 0)⟩), (9, .val (V.s (.int .i64 m)))] []
noncomputable def Xa.K3 : List Fr := framesAt [true, true, true, true, true, true, true, true, false, true, false] (bodyOf Tryz.f138 Xa.cuts) []
def Xa.N3 (c : Bool) (b : List Int) (d : List Int) (a5 : Bool) (z : List Int) (l : Bool) (f : List Int) (v : Int) : St := stOf 254 254 2 [(0, .val ⟨(.nums 3 .i64 c b), [], false, none⟩), (7, .val ⟨(.nums 3 .i64 false d), [.l 7 0], true, some (.l 7 0)⟩), (14, .val ⟨(.nums 3 .i64 a5 z), [.l 14 0], true, some (.l 14 0)⟩), (15, .val ⟨(.nums 3 .i64 l f), [.l 15 0], true, some (.l 15 0)⟩), (16, .val (V.s (.int .i64 v)))] []
noncomputable def Xa.K4 : List Fr := framesAt [true, true, true, true, true, true, true, true, true, true, false, true, false] (bodyOf Tryz.f138 Xa.cuts) []
def Xa.N4 (c : Bool) (b : List Int) (l : Bool) (f : List Int) (a1 : List Int) (a3 : Int) (w : Int) : St := stOf 254 254 2 [(0, .val ⟨(.nums 3 .i64 c b), [], false, none⟩), (15, .val ⟨(.nums 3 .i64 l f), [.l 15 0], true, some (.l 15 0)⟩), (21, .val ⟨(.nums 3 .i64 false a1), [.l 21 0], true, some (.l 21 0)⟩), (235, .val (V.s (.int .i64 a3))), (236, .val (V.s (.int .i64 w)))] []
theorem Xa.s (k : Nat) (q : Bool) (p : List Int) (u : Bool) (s : List Int) : answer Tryz.prog Xa.Cs 100000 Xa.cuts [] Tryz.f138 (k + 1) [.v (.nums 3 .i64 q p), .v (.nums 5 .u8 u s)] = Xa.b (fun r => some (Xa.enc r)) (fun c b i g a4 a0 a2 y => rounds Tryz.prog Xa.Cs (finish Tryz.prog [] Tryz.f138 [.v (.nums 3 .i64 q p), .v (.nums 5 .u8 u s)]) 100000 k Xa.K0 (Xa.N0 c b i g a4 a0 a2 y)) (fun c b i g d o => rounds Tryz.prog Xa.Cs (finish Tryz.prog [] Tryz.f138 [.v (.nums 3 .i64 q p), .v (.nums 5 .u8 u s)]) 100000 k Xa.K1 (Xa.N1 c b i g d o)) (fun c b d m => rounds Tryz.prog Xa.Cs (finish Tryz.prog [] Tryz.f138 [.v (.nums 3 .i64 q p), .v (.nums 5 .u8 u s)]) 100000 k Xa.K2 (Xa.N2 c b d m)) (fun c b d a5 z l f v => rounds Tryz.prog Xa.Cs (finish Tryz.prog [] Tryz.f138 [.v (.nums 3 .i64 q p), .v (.nums 5 .u8 u s)]) 100000 k Xa.K3 (Xa.N3 c b d a5 z l f v)) (fun c b l f a1 a3 w => rounds Tryz.prog Xa.Cs (finish Tryz.prog [] Tryz.f138 [.v (.nums 3 .i64 q p), .v (.nums 5 .u8 u s)]) 100000 k Xa.K4 (Xa.N4 c b l f a1 a3 w)) k q p u s := by kernel_rfl
theorem Xa.s0 (k : Nat) (G : List Fr -> St -> Option Res) (q : Bool) (p : List Int) (u : Bool) (s : List Int) (a6 : Bool) (a7 : List Int) (b0 : Bool) (b1 : List Int) (b7 : Bool) (b8 : List Int) (b9 : Int) (c0 : Int) : resume Tryz.prog (Xa.Cs k) G (finish Tryz.prog [] Tryz.f138 [.v (.nums 3 .i64 q p), .v (.nums 5 .u8 u s)]) 100000 Xa.K0 (Xa.N0 a6 a7 b0 b1 b7 b8 b9 c0) = Xa.l0b (fun r => some (Xa.enc r)) (fun c b i g a4 a0 a2 y => G Xa.K0 (Xa.N0 c b i g a4 a0 a2 y)) (fun c b i g d o => G Xa.K1 (Xa.N1 c b i g d o)) (fun c b d m => G Xa.K2 (Xa.N2 c b d m)) (fun c b d a5 z l f v => G Xa.K3 (Xa.N3 c b d a5 z l f v)) (fun c b l f a1 a3 w => G Xa.K4 (Xa.N4 c b l f a1 a3 w)) k a6 a7 b0 b1 b7 b8 b9 c0 := by kernel_rfl
theorem Xa.s1 (k : Nat) (G : List Fr -> St -> Option Res) (q : Bool) (p : List Int) (u : Bool) (s : List Int) (a6 : Bool) (a7 : List Int) (b0 : Bool) (b1 : List Int) (a9 : List Int) (c1 : Int) : resume Tryz.prog (Xa.Cs k) G (finish Tryz.prog [] Tryz.f138 [.v (.nums 3 .i64 q p), .v (.nums 5 .u8 u s)]) 100000 Xa.K1 (Xa.N1 a6 a7 b0 b1 a9 c1) = Xa.l1b (fun r => some (Xa.enc r)) (fun c b i g a4 a0 a2 y => G Xa.K0 (Xa.N0 c b i g a4 a0 a2 y)) (fun c b i g d o => G Xa.K1 (Xa.N1 c b i g d o)) (fun c b d m => G Xa.K2 (Xa.N2 c b d m)) (fun c b d a5 z l f v => G Xa.K3 (Xa.N3 c b d a5 z l f v)) (fun c b l f a1 a3 w => G Xa.K4 (Xa.N4 c b l f a1 a3 w)) k a6 a7 b0 b1 a9 c1 := by kernel_rfl
theorem Xa.s2 (k : Nat) (G : List Fr -> St -> Option Res) (q : Bool) (p : List Int) (u : Bool) (s : List Int) (a6 : Bool) (a7 : List Int) (a9 : List Int) (c2 : Int) : resume Tryz.prog (Xa.Cs k) G (finish Tryz.prog [] Tryz.f138 [.v (.nums 3 .i64 q p), .v (.nums 5 .u8 u s)]) 100000 Xa.K2 (Xa.N2 a6 a7 a9 c2) = Xa.l2b (fun r => some (Xa.enc r)) (fun c b i g a4 a0 a2 y => G Xa.K0 (Xa.N0 c b i g a4 a0 a2 y)) (fun c b i g d o => G Xa.K1 (Xa.N1 c b i g d o)) (fun c b d m => G Xa.K2 (Xa.N2 c b d m)) (fun c b d a5 z l f v => G Xa.K3 (Xa.N3 c b d a5 z l f v)) (fun c b l f a1 a3 w => G Xa.K4 (Xa.N4 c b l f a1 a3 w)) k a6 a7 a9 c2 := by kernel_rfl
theorem Xa.s3 (k : Nat) (G : List Fr -> St -> Option Res) (q : Bool) (p : List Int) (u : Bool) (s : List Int) (a6 : Bool) (a7 : List Int) (a9 : List Int) (c3 : Bool) (c4 : List Int) (b2 : Bool) (b3 : List Int) (c5 : Int) : resume Tryz.prog (Xa.Cs k) G (finish Tryz.prog [] Tryz.f138 [.v (.nums 3 .i64 q p), .v (.nums 5 .u8 u s)]) 100000 Xa.K3 (Xa.N3 a6 a7 a9 c3 c4 b2 b3 c5) = Xa.l3b (fun r => some (Xa.enc r)) (fun c b i g a4 a0 a2 y => G Xa.K0 (Xa.N0 c b i g a4 a0 a2 y)) (fun c b i g d o => G Xa.K1 (Xa.N1 c b i g d o)) (fun c b d m => G Xa.K2 (Xa.N2 c b d m)) (fun c b d a5 z l f v => G Xa.K3 (Xa.N3 c b d a5 z l f v)) (fun c b l f a1 a3 w => G Xa.K4 (Xa.N4 c b l f a1 a3 w)) k a6 a7 a9 c3 c4 b2 b3 c5 := by kernel_rfl
theorem Xa.s4 (k : Nat) (G : List Fr -> St -> Option Res) (q : Bool) (p : List Int) (u : Bool) (s : List Int) (a6 : Bool) (a7 : List Int) (b2 : Bool) (b3 : List Int) (c6 : List Int) (c7 : Int) (c8 : Int) : resume Tryz.prog (Xa.Cs k) G (finish Tryz.prog [] Tryz.f138 [.v (.nums 3 .i64 q p), .v (.nums 5 .u8 u s)]) 100000 Xa.K4 (Xa.N4 a6 a7 b2 b3 c6 c7 c8) = Xa.l4b (fun r => some (Xa.enc r)) (fun c b i g a4 a0 a2 y => G Xa.K0 (Xa.N0 c b i g a4 a0 a2 y)) (fun c b i g d o => G Xa.K1 (Xa.N1 c b i g d o)) (fun c b d m => G Xa.K2 (Xa.N2 c b d m)) (fun c b d a5 z l f v => G Xa.K3 (Xa.N3 c b d a5 z l f v)) (fun c b l f a1 a3 w => G Xa.K4 (Xa.N4 c b l f a1 a3 w)) k a6 a7 b2 b3 c6 c7 c8 := by kernel_rfl
theorem Xa.b_nat {R R' : Type} (e : R -> R') (ret : Bool × List Int -> Option R) (j0 : Bool -> (List Int) -> Bool -> (List Int) -> Bool -> (List Int) -> Int -> Int -> Option R) (j1 : Bool -> (List Int) -> Bool -> (List Int) -> (List Int) -> Int -> Option R) (j2 : Bool -> (List Int) -> (List Int) -> Int -> Option R) (j3 : Bool -> (List Int) -> (List Int) -> Bool -> (List Int) -> Bool -> (List Int) -> Int -> Option R) (j4 : Bool -> (List Int) -> Bool -> (List Int) -> (List Int) -> Int -> Int -> Option R) (k : Nat) (q : Bool) (p : List Int) (u : Bool) (s : List Int) : Xa.b (fun r => (ret r).map e) (fun c b i g a4 a0 a2 y => (j0 c b i g a4 a0 a2 y).map e) (fun c b i g d o => (j1 c b i g d o).map e) (fun c b d m => (j2 c b d m).map e) (fun c b d a5 z l f v => (j3 c b d a5 z l f v).map e) (fun c b l f a1 a3 w => (j4 c b l f a1 a3 w).map e) k q p u s = (Xa.b ret j0 j1 j2 j3 j4 k q p u s).map e := by
 unfold Xa.b
 repeat' first | with_reducible refine qH ?_ ?_ | with_reducible refine qI fun _ => ?_ | rfl
theorem Xa.l0b_nat {R R' : Type} (e : R -> R') (ret : Bool × List Int -> Option R) (j0 : Bool -> (List Int) -> Bool -> (List Int) -> Bool -> (List Int) -> Int -> Int -> Option R) (j1 : Bool -> (List Int) -> Bool -> (List Int) -> (List Int) -> Int -> Option R) (j2 : Bool -> (List Int) -> (List Int) -> Int -> Option R) (j3 : Bool -> (List Int) -> (List Int) -> Bool -> (List Int) -> Bool -> (List Int) -> Int -> Option R) (j4 : Bool -> (List Int) -> Bool -> (List Int) -> (List Int) -> Int -> Int -> Option R) (k : Nat) (c : Bool) (b : List Int) (i : Bool) (g : List Int) (a4 : Bool) (a0 : List Int) (a2 : Int) (y : Int) : Xa.l0b (fun r => (ret r).map e) (fun c b i g a4 a0 a2 y => (j0 c b i g a4 a0 a2 y).map e) (fun c b i g d o => (j1 c b i g d o).map e) (fun c b d m => (j2 c b d m).map e) (fun c b d a5 z l f v => (j3 c b d a5 z l f v).map e) (fun c b l f a1 a3 w => (j4 c b l f a1 a3 w).map e) k c b i g a4 a0 a2 y = (Xa.l0b ret j0 j1 j2 j3 j4 k c b i g a4 a0 a2 y).map e := by
 unfold Xa.l0b
 repeat' first | with_reducible refine qH ?_ ?_ | with_reducible refine qI fun _ => ?_ | rfl
theorem Xa.l1b_nat {R R' : Type} (e : R -> R') (ret : Bool × List Int -> Option R) (j0 : Bool -> (List Int) -> Bool -> (List Int) -> Bool -> (List Int) -> Int -> Int -> Option R) (j1 : Bool -> (List Int) -> Bool -> (List Int) -> (List Int) -> Int -> Option R) (j2 : Bool -> (List Int) -> (List Int) -> Int -> Option R) (j3 : Bool -> (List Int) -> (List Int) -> Bool -> (List Int) -> Bool -> (List Int) -> Int -> Option R) (j4 : Bool -> (List Int) -> Bool -> (List Int) -> (List Int) -> Int -> Int -> Option R) (k : Nat) (c : Bool) (b : List Int) (i : Bool) (g : List Int) (d : List Int) (o : Int) : Xa.l1b (fun r => (ret r).map e) (fun c b i g a4 a0 a2 y => (j0 c b i g a4 a0 a2 y).map e) (fun c b i g d o => (j1 c b i g d o).map e) (fun c b d m => (j2 c b d m).map e) (fun c b d a5 z l f v => (j3 c b d a5 z l f v).map e) (fun c b l f a1 a3 w => (j4 c b l f a1 a3 w).map e) k c b i g d o = (Xa.l1b ret j0 j1 j2 j3 j4 k c b i g d o).map e := by
 unfold Xa.l1b
 repeat' first | with_reducible refine qH ?_ ?_ | with_reducible refine qI fun _ => ?_ | rfl
theorem Xa.l2b_nat {R R' : Type} (e : R -> R') (ret : Bool × List Int -> Option R) (j0 : Bool -> (List Int) -> Bool -> (List Int) -> Bool -> (List Int) -> Int -> Int -> Option R) (j1 : Bool -> (List Int) -> Bool -> (List Int) -> (List Int) -> Int -> Option R) (j2 : Bool -> (List Int) -> (List Int) -> Int -> Option R) (j3 : Bool -> (List Int) -> (List Int) -> Bool -> (List Int) -> Bool -> (List Int) -> Int -> Option R) (j4 : Bool -> (List Int) -> Bool -> (List Int) -> (List Int) -> Int -> Int -> Option R) (k : Nat) (c : Bool) (b : List Int) (d : List Int) (m : Int) : Xa.l2b (fun r => (ret r).map e) (fun c b i g a4 a0 a2 y => (j0 c b i g a4 a0 a2 y).map e) (fun c b i g d o => (j1 c b i g d o).map e) (fun c b d m => (j2 c b d m).map e) (fun c b d a5 z l f v => (j3 c b d a5 z l f v).map e) (fun c b l f a1 a3 w => (j4 c b l f a1 a3 w).map e) k c b d m = (Xa.l2b ret j0 j1 j2 j3 j4 k c b d m).map e := by
 unfold Xa.l2b
 repeat' first | with_reducible refine qH ?_ ?_ | with_reducible refine qI fun _ => ?_ | rfl
theorem Xa.l3b_nat {R R' : Type} (e : R -> R') (ret : Bool × List Int -> Option R) (j0 : Bool -> (List Int) -> Bool -> (List Int) -> Bool -> (List Int) -> Int -> Int -> Option R) (j1 : Bool -> (List Int) -> Bool -> (List Int) -> (List Int) -> Int -> Option R) (j2 : Bool -> (List Int) -> (List Int) -> Int -> Option R) (j3 : Bool -> (List Int) -> (List Int) -> Bool -> (List Int) -> Bool -> (List Int) -> Int -> Option R) (j4 : Bool -> (List Int) -> Bool -> (List Int) -> (List Int) -> Int -> Int -> Option R) (k : Nat) (c : Bool) (b : List Int) (d : List Int) (a5 : Bool) (z : List Int) (l : Bool) (f : List Int) (v : Int) : Xa.l3b (fun r => (ret r).map e) (fun c b i g a4 a0 a2 y => (j0 c b i g a4 a0 a2 y).map e) (fun c b i g d o => (j1 c b i g d o).map e) (fun c b d m => (j2 c b d m).map e) (fun c b d a5 z l f v => (j3 c b d a5 z l f v).map e) (fun c b l f a1 a3 w => (j4 c b l f a1 a3 w).map e) k c b d a5 z l f v = (Xa.l3b ret j0 j1 j2 j3 j4 k c b d a5 z l f v).map e := by
 unfold Xa.l3b
 repeat' first | with_reducible refine qH ?_ ?_ | with_reducible refine qI fun _ => ?_ | rfl
theorem Xa.l4b_nat {R R' : Type} (e : R -> R') (ret : Bool × List Int -> Option R) (j0 : Bool -> (List Int) -> Bool -> (List Int) -> Bool -> (List Int) -> Int -> Int -> Option R) (j1 : Bool -> (List Int) -> Bool -> (List Int) -> (List Int) -> Int -> Option R) (j2 : Bool -> (List Int) -> (List Int) -> Int -> Option R) (j3 : Bool -> (List Int) -> (List Int) -> Bool -> (List Int) -> Bool -> (List Int) -> Int -> Option R) (j4 : Bool -> (List Int) -> Bool -> (List Int) -> (List Int) -> Int -> Int -> Option R) (k : Nat) (c : Bool) (b : List Int) (l : Bool) (f : List Int) (a1 : List Int) (a3 : Int) (w : Int) : Xa.l4b (fun r => (ret r).map e) (fun c b i g a4 a0 a2 y => (j0 c b i g a4 a0 a2 y).map e) (fun c b i g d o => (j1 c b i g d o).map e) (fun c b d m => (j2 c b d m).map e) (fun c b d a5 z l f v => (j3 c b d a5 z l f v).map e) (fun c b l f a1 a3 w => (j4 c b l f a1 a3 w).map e) k c b l f a1 a3 w = (Xa.l4b ret j0 j1 j2 j3 j4 k c b l f a1 a3 w).map e := by
 unfold Xa.l4b
 repeat' first | with_reducible refine qH ?_ ?_ | with_reducible refine qI fun _ => ?_ | rfl
theorem Xa.rounds_eq (q : Bool) (p : List Int) (u : Bool) (s : List Int) : ∀ k, (∀ (c : Bool) (b : List Int) (i : Bool) (g : List Int) (a4 : Bool) (a0 : List Int) (a2 : Int) (y : Int), rounds Tryz.prog Xa.Cs (finish Tryz.prog [] Tryz.f138 [.v (.nums 3 .i64 q p), .v (.nums 5 .u8 u s)]) 100000 k Xa.K0 (Xa.N0 c b i g a4 a0 a2 y) = (Xa.l0 k c b i g a4 a0 a2 y).map Xa.enc) /\ (∀ (c : Bool) (b : List Int) (i : Bool) (g : List Int) (d : List Int) (o : Int), rounds Tryz.prog Xa.Cs (finish Tryz.prog [] Tryz.f138 [.v (.nums 3 .i64 q p), .v (.nums 5 .u8 u s)]) 100000 k Xa.K1 (Xa.N1 c b i g d o) = (Xa.l1 k c b i g d o).map Xa.enc) /\ (∀ (c : Bool) (b : List Int) (d : List Int) (m : Int), rounds Tryz.prog Xa.Cs (finish Tryz.prog [] Tryz.f138 [.v (.nums 3 .i64 q p), .v (.nums 5 .u8 u s)]) 100000 k Xa.K2 (Xa.N2 c b d m) = (Xa.l2 k c b d m).map Xa.enc) /\ (∀ (c : Bool) (b : List Int) (d : List Int) (a5 : Bool) (z : List Int) (l : Bool) (f : List Int) (v : Int), rounds Tryz.prog Xa.Cs (finish Tryz.prog [] Tryz.f138 [.v (.nums 3 .i64 q p), .v (.nums 5 .u8 u s)]) 100000 k Xa.K3 (Xa.N3 c b d a5 z l f v) = (Xa.l3 k c b d a5 z l f v).map Xa.enc) /\ (∀ (c : Bool) (b : List Int) (l : Bool) (f : List Int) (a1 : List Int) (a3 : Int) (w : Int), rounds Tryz.prog Xa.Cs (finish Tryz.prog [] Tryz.f138 [.v (.nums 3 .i64 q p), .v (.nums 5 .u8 u s)]) 100000 k Xa.K4 (Xa.N4 c b l f a1 a3 w) = (Xa.l4 k c b l f a1 a3 w).map Xa.enc)
 | 0 => ⟨fun _ _ _ _ _ _ _ _ => rfl, fun _ _ _ _ _ _ => rfl, fun _ _ _ _ => rfl, fun _ _ _ _ _ _ _ _ => rfl, fun _ _ _ _ _ _ _ => rfl⟩
 | k + 1 => by
  have ih := Xa.rounds_eq q p u s k
  refine ⟨fun _ _ _ _ _ _ _ _ => ?_, fun _ _ _ _ _ _ => ?_, fun _ _ _ _ => ?_, fun _ _ _ _ _ _ _ _ => ?_, fun _ _ _ _ _ _ _ => ?_⟩
  ·refine (Xa.s0 k _ q p u s _ _ _ _ _ _ _ _).trans (Eq.trans ?_ (Xa.l0b_nat Xa.enc some (Xa.l0 k) (Xa.l1 k) (Xa.l2 k) (Xa.l3 k) (Xa.l4 k) k _ _ _ _ _ _ _ _))
   simp only [ih.1, ih.2.1, ih.2.2.1, ih.2.2.2.1, ih.2.2.2.2, Option.map_some]
  ·refine (Xa.s1 k _ q p u s _ _ _ _ _ _).trans (Eq.trans ?_ (Xa.l1b_nat Xa.enc some (Xa.l0 k) (Xa.l1 k) (Xa.l2 k) (Xa.l3 k) (Xa.l4 k) k _ _ _ _ _ _))
   simp only [ih.1, ih.2.1, ih.2.2.1, ih.2.2.2.1, ih.2.2.2.2, Option.map_some]
  ·refine (Xa.s2 k _ q p u s _ _ _ _).trans (Eq.trans ?_ (Xa.l2b_nat Xa.enc some (Xa.l0 k) (Xa.l1 k) (Xa.l2 k) (Xa.l3 k) (Xa.l4 k) k _ _ _ _))
   simp only [ih.1, ih.2.1, ih.2.2.1, ih.2.2.2.1, ih.2.2.2.2, Option.map_some]
  ·refine (Xa.s3 k _ q p u s _ _ _ _ _ _ _ _).trans (Eq.trans ?_ (Xa.l3b_nat Xa.enc some (Xa.l0 k) (Xa.l1 k) (Xa.l2 k) (Xa.l3 k) (Xa.l4 k) k _ _ _ _ _ _ _ _))
   simp only [ih.1, ih.2.1, ih.2.2.1, ih.2.2.2.1, ih.2.2.2.2, Option.map_some]
  ·refine (Xa.s4 k _ q p u s _ _ _ _ _ _ _).trans (Eq.trans ?_ (Xa.l4b_nat Xa.enc some (Xa.l0 k) (Xa.l1 k) (Xa.l2 k) (Xa.l3 k) (Xa.l4 k) k _ _ _ _ _ _ _))
   simp only [ih.1, ih.2.1, ih.2.2.1, ih.2.2.2.1, ih.2.2.2.2, Option.map_some]
theorem Xa.eq (k : Nat) (q : Bool) (p : List Int) (u : Bool) (s : List Int) : answer Tryz.prog Xa.Cs 100000 Xa.cuts [] Tryz.f138 (k + 1) [.v (.nums 3 .i64 q p), .v (.nums 5 .u8 u s)] = (Xa.f (k + 1) q p u s).map Xa.enc := by
 have ih := Xa.rounds_eq q p u s k
 refine (Xa.s k q p u s).trans (Eq.trans ?_ (Xa.b_nat Xa.enc some (Xa.l0 k) (Xa.l1 k) (Xa.l2 k) (Xa.l3 k) (Xa.l4 k) k q p u s))
 simp only [ih.1, ih.2.1, ih.2.2.1, ih.2.2.2.1, ih.2.2.2.2, Option.map_some]
theorem Xa.sound (k : Nat) : SoundF Tryz.prog 138 (fun a => (Xa.ans k a).val) := by
 refine qw (fun args res h => ?_) (fun t n => rfl)
 unfold Xa.ans at h
 dsimp only at h
 split at h
 ·cases k with
  | zero => cases h
  | succ k =>
   unfold Ans.val at h
   rw [<- Xa.eq] at h
   exact qB mixed Tryz.func138 _ _ _ (k + 1) (fun j _ => qu (qp (Ybf.F.s j) (qp (Yan.F.s j) (qp (Ybg.F.s j) (qaL))))) _ _ h
 ·exact (Ans.no_val h).elim
def Xa.F : Fn := ⟨138, Xa.ans, Xa.sound⟩
mutual
def Xm.l0 : Nat -> Bool -> (List Int) -> Bool -> (List Int) -> Int -> Option (Bool × List Int)
 | 0, _, _, _, _, _ => none
 | k + 1, i, e, j, d, a => cond (decide (a < ((d).length : Int))) (cond (decide ((0 : Int) <= (wrap64 (a + 64)))) (cond (decide ((wrap64 (a + 64)) <= ((d).length : Int))) (cond (decide ((0 : Int) <= a)) (cond (decide (a <= (wrap64 (a + 64)))) ((Xa.f k i e j (((d).take ((wrap64 (a + 64))).toNat).drop (a).toNat)).bind fun n => Xm.l0 k n.1 n.2 j d (wrap64 (a + 64))) (none)) (none)) (none)) (none)) (Xm.l1 k ([] : List Int) i e ((e).length : Int) 0)
def Xm.l1 : Nat -> (List Int) -> Bool -> (List Int) -> Int -> Int -> Option (Bool × List Int)
 | 0, _, _, _, _, _ => none
 | k + 1, f, m, c, l, b => cond (decide (b < l)) (cond (decide ((0 : Int) <= b)) (cond (decide (b < ((c).length : Int))) (cond (decide ((f).length + 4 < 140737488355328)) (Xm.l1 k (f ++ ([(((shrI .i64 (rdI c b) 24)) % 256), (((shrI .i64 (rdI c b) 16)) % 256), (((shrI .i64 (rdI c b) 8)) % 256), (((rdI c b)) % 256)] : List Int)) m c l (wrap64 (b + 1))) (none)) (none)) (none)) (some (false, f))
end
def Xm.f : Nat -> Bool -> (List Int) -> Option (Bool × List Int)
 | 0, _, _ => none
 | k + 1, g, h => (YaP.f k).bind fun n => (Xu.f k g h).bind fun o => Xm.l0 k n.1 n.2 o.1 o.2 0
def Xm.enc (r : Bool × List Int) : Res := ⟨[.vals false [((.nums 5 .u8 r.1 r.2), true)]], []⟩
def Xm.ans (k : Nat) : List Arg -> Ans
 | [.v (.nums 5 .u8 g h)] => ⟨Xm.f k g h, Xm.enc⟩
 | _ => Ans.no
def Xm.cuts : List (Nat × Keep) := [(122, ⟨[(3, none), (4, none), (5, some [])], []⟩), (506, ⟨[(6, none), (26, none), (27, some []), (28, some [])], []⟩)]
noncomputable def Xm.K0 : List Fr := framesAt [true, true, true, false, true, false] (bodyOf Tryz.f114 Xm.cuts) []
def Xm.N0 (i : Bool) (e : List Int) (j : Bool) (d : List Int) (a : Int) : St := stOf 48 48 1 [(3, .val ⟨(.nums 3 .i64 i e), [.l 3 0], true, some (.l 3 0)⟩), (4, .val ⟨(.nums 5 .u8 j d), [.l 4 0], true, some (.l 4 0)⟩), (5, vi a)] []
noncomputable def Xm.K1 : List Fr := framesAt [true, true, true, true, true, false, true, false] (bodyOf Tryz.f114 Xm.cuts) []
def Xm.N1 (f : List Int) (m : Bool) (c : List Int) (l : Int) (b : Int) : St := stOf 48 48 1 [(6, .val ⟨(.nums 5 .u8 false f), [.l 6 0], true, some (.l 6 0)⟩), (26, .val ⟨(.nums 3 .i64 m c), [.l 26 0], true, some (.l 26 0)⟩), (27, vi l), (28, vi b)] []
theorem Xm.r (g) (h) (k) : (∀ i e j d a, rounds Tryz.prog (tb [YaP.F, Xu.F, Xa.F]) (finish Tryz.prog [] Tryz.f114 [.v (.nums 5 .u8 g h)]) 100000 k Xm.K0 (Xm.N0 i e j d a) = (Xm.l0 k i e j d a).map Xm.enc) /\ (∀ f m c l b, rounds Tryz.prog (tb [YaP.F, Xu.F, Xa.F]) (finish Tryz.prog [] Tryz.f114 [.v (.nums 5 .u8 g h)]) 100000 k Xm.K1 (Xm.N1 f m c l b) = (Xm.l1 k f m c l b).map Xm.enc) := by
 induction k with
 | zero => and_intros <;> intros <;> rfl
 | succ k ih =>
  have ⟨i0, i1⟩ := ih
  and_intros <;> intros <;> simp only [Xm.l0.eq_2, Xm.l1.eq_2, mc, mb, ms, mn, <- i0, <- i1, -eq_self] <;> kernel_rfl
def Xm.F : Fn := ⟨114, Xm.ans, sd Xm.ans Tryz.func114 [YaP.F, Xu.F, Xa.F] Xm.cuts [] (fun k x => by unfold Xm.ans; split; (right; rename_i g h; have ⟨i0, i1⟩ := Xm.r g h k; change _ = Option.map Xm.enc _; simp only [Xm.f.eq_2, mc, mb, ms, mn, <- i0, <- i1, -eq_self]; kernel_rfl); exact .inl rfl) (fun x => by unfold Xm.ans; split <;> rfl)⟩
def Ybh.f : Nat -> Bool -> (List Int) -> Option (Bool × List Int)
 | 0, _, _ => none
 | k + 1, b, a => cond (decide (1 + (a).length < 140737488355328)) ((Xm.f k ((a).isEmpty && false) (([0] : List Int) ++ a)).bind fun c => some (c.1, c.2)) (none)
def Ybh.enc (r : Bool × List Int) : Res := ⟨[.vals false [((.nums 5 .u8 r.1 r.2), true)]], []⟩
def Ybh.ans (k : Nat) : List Arg -> Ans
 | [.v (.nums 5 .u8 b a)] => ⟨Ybh.f k b a, Ybh.enc⟩
 | _ => Ans.no
def Ybh.F : Fn := ⟨115, Ybh.ans, sd Ybh.ans Tryz.func115 [Xm.F] [] [] (fun k x => by unfold Ybh.ans; split; (right; change _ = Option.map Ybh.enc _; simp only [Ybh.f.eq_2, mc, mb, ms, mn, -eq_self]; kernel_rfl); exact .inl rfl) (fun x => by unfold Ybh.ans; split <;> rfl)⟩
def XK.l0 : Nat -> Int -> Int -> Option Int
 | 0, _, _ => none
 | k + 1, c, a => cond (decide (a < (wrap64 (c - a)))) (XK.l0 k c (wrap64 ((2 : Int) * a))) (some a)
def XK.f : Nat -> Int -> Option Int
 | 0, _ => none
 | k + 1, b => cond (decide (b < 2)) (some 0) (XK.l0 k b 1)
def XK.enc (r : Int) : Res := ⟨[.vals false [((.int .i64 r), true)]], []⟩
def XK.ans (k : Nat) : List Arg -> Ans
 | [.v (.int .i64 b)] => ⟨XK.f k b, XK.enc⟩
 | _ => Ans.no
def XK.cuts : List (Nat × Keep) := [(60, ⟨[(0, some []), (3, some [])], []⟩)]
noncomputable def XK.K0 : List Fr := framesAt [true, true, true, false, false] (bodyOf Tryz.f116 XK.cuts) []
def XK.N0 (c : Int) (a : Int) : St := stOf 14 14 1 [(0, vi c), (3, vi a)] []
theorem XK.r (b) (k) : (∀ c a, rounds Tryz.prog (tb []) (finish Tryz.prog [] Tryz.f116 [.v (.int .i64 b)]) 100000 k XK.K0 (XK.N0 c a) = (XK.l0 k c a).map XK.enc) := by
 induction k with
 | zero => intros <;> rfl
 | succ k ih =>
  have i0 := ih
  intros <;> simp only [XK.l0.eq_2, mc, mb, ms, mn, <- i0, -eq_self] <;> kernel_rfl
def XK.F : Fn := ⟨116, XK.ans, sd XK.ans Tryz.func116 [] XK.cuts [] (fun k x => by unfold XK.ans; split; (right; rename_i b; have i0 := XK.r b k; change _ = Option.map XK.enc _; simp only [XK.f.eq_2, mc, mb, ms, mn, <- i0, -eq_self]; kernel_rfl); exact .inl rfl) (fun x => by unfold XK.ans; split <;> rfl)⟩
def Ybi.f : Nat -> Bool -> (List Int) -> Bool -> (List Int) -> Option (Bool × List Int)
 | 0, _, _, _, _ => none
 | k + 1, c, a, d, b => cond (decide (1 + (a).length < 140737488355328)) (cond (decide (((([1] : List Int) ++ a)).length + (b).length < 140737488355328)) ((Xm.f k ((b).isEmpty && ((a).isEmpty && false)) ((([1] : List Int) ++ a) ++ b)).bind fun e => some (e.1, e.2)) (none)) (none)
def Ybi.enc (r : Bool × List Int) : Res := ⟨[.vals false [((.nums 5 .u8 r.1 r.2), true)]], []⟩
def Ybi.ans (k : Nat) : List Arg -> Ans
 | [.v (.nums 5 .u8 c a), .v (.nums 5 .u8 d b)] => ⟨Ybi.f k c a d b, Ybi.enc⟩
 | _ => Ans.no
def Ybi.F : Fn := ⟨117, Ybi.ans, sd Ybi.ans Tryz.func117 [Xm.F] [] [] (fun k x => by unfold Ybi.ans; split; (right; change _ = Option.map Ybi.enc _; simp only [Ybi.f.eq_2, mc, mb, ms, mn, -eq_self]; kernel_rfl); exact .inl rfl) (fun x => by unfold Ybi.ans; split <;> rfl)⟩
def Yaj.f : Nat -> Bool -> (List T) -> Option (Bool × List Int)
 | 0, _, _ => none
 | k + 1, d, b => cond (decide (((b).length : Int) = 0)) ((Xm.f k true ([] : List Int)).bind fun c => some (c.1, c.2)) (cond (decide (((b).length : Int) = 1)) (cond (decide ((0 : Int) < ((b).length : Int))) ((Ybh.f k (((((b).getD 0 .bad).cells.getD 0 .bad)).isNil) (((((b).getD 0 .bad).cells.getD 0 .bad)).toNums)).bind fun c => some (c.1, c.2)) (none)) ((XK.f k ((b).length : Int)).bind fun c => cond (decide ((0 : Int) <= c)) (cond (decide (c <= ((b).length : Int))) (cond (decide ((0 : Int) <= c)) ((Yaj.f k d (((b).take (c).toNat).drop 0)).bind fun e => cond (decide ((0 : Int) <= ((b).length : Int))) (cond (decide (((b).length : Int) <= ((b).length : Int))) (cond (decide ((0 : Int) <= c)) (cond (decide (c <= ((b).length : Int))) ((Yaj.f k d (((b).take (b).length).drop (c).toNat)).bind fun f => (Ybi.f k e.1 e.2 f.1 f.2).bind fun g => some (g.1, g.2)) (none)) (none)) (none)) (none)) (none)) (none)) (none)))
def Yaj.enc (r : Bool × List Int) : Res := ⟨[.vals false [((.nums 5 .u8 r.1 r.2), true)]], []⟩
def Yaj.ans (k : Nat) : List Arg -> Ans
 | [.v (.sl 24 d b)] => ⟨Yaj.f k d b, Yaj.enc⟩
 | _ => Ans.no
def Yaj.Cs (k : Nat) : CallSem := tab [(114, Xm.ans k), (115, Ybh.ans k), (116, XK.ans k), (117, Ybi.ans k), (83, Yaj.ans k)]
theorem Yaj.eq (k d b) : answer Tryz.prog (Yaj.Cs) 100000 [] [] Tryz.f83 (k + 1) [.v (.sl 24 d b)] = (Yaj.f (k + 1) d b).map Yaj.enc := by
 rw [Yaj.f.eq_2]; simp only [mc, mb, ms, mn, -eq_self]; show _ = _; kernel_rfl
theorem Yaj.sound (k : Nat) : SoundF Tryz.prog 83 (fun a => (Yaj.ans k a).val) := by
 induction k using Nat.strongRecOn with
 | _ k sih =>
 match k, sih with
 | 0, _ =>
  refine qw (fun args res h => ?_) (fun t n => rfl)
  unfold Yaj.ans at h
  dsimp only at h
  split at h
  ·cases h
  ·exact (Ans.no_val h).elim
 | k + 1, sih =>
  refine qw (fun args res h => ?_) (fun t n => rfl)
  unfold Yaj.ans at h
  dsimp only at h
  split at h
  ·unfold Ans.val at h
   rw [<- Yaj.eq] at h
   exact qB mixed Tryz.func83 _ _ _ (k + 1) (fun j hj => qu (qp (Xm.F.s j) (qp (Ybh.F.s j) (qp (XK.F.s j) (qp (Ybi.F.s j) (qp (sih j hj) (qaL))))))) _ _ h
  ·exact (Ans.no_val h).elim
def Yaj.F : Fn := ⟨83, Yaj.ans, Yaj.sound⟩
mutual
def Xw.l0 : Nat -> Int -> Int -> Bool -> (List Int) -> Int -> Int -> Int -> Int -> Int -> Int -> Int -> Int -> Int -> Int -> Bool -> (List Int) -> Bool -> (List Int) -> Int -> Int -> Bool -> (List Int) -> Bool -> (List Int) -> Bool -> (List T) -> Bool -> (List T) -> Option (Int × Int × Int × Bool × (List Int) × Bool × (List Int) × Int × Int × Bool × (List Int) × Bool × (List Int) × Bool × (List T) × Bool × (List T) × Bool × (List Int) × Int × Int)
 | 0, _, _, _, _, _, _, _, _, _, _, _, _, _, _, _, _, _, _, _, _, _, _, _, _, _, _, _, _ => none
 | k + 1, b0, b1, f, g, h, b, b3, b2, b4, b5, b6, i, j, l, m, n, d, e, o, p, q, s, t, u, v, w, y, c => cond (decide (b1 < b0)) (cond (decide (b = 0)) ((Yaw.f k f g h b b2).bind fun a => cond (decide ((c).length + 1 < 5864062014805)) (Xw.l0 k b0 (wrap64 (b1 + 1)) a.2.2.1 a.2.2.2.1 a.2.2.2.2.1 a.2.2.2.2.2 b3 b2 b4 b5 b6 i j l m n d e o p q s t u v w false (c ++ ([(.nums 5 .u8 a.1 a.2.1)] : List T))) (none)) (Xw.l1 k f g h b i j l m n d e o p q s t u v w y c)) (Xw.l1 k f g h b i j l m n d e o p q s t u v w y c)
def Xw.l1 : Nat -> Bool -> (List Int) -> Int -> Int -> Int -> Int -> Int -> Bool -> (List Int) -> Bool -> (List Int) -> Int -> Int -> Bool -> (List Int) -> Bool -> (List Int) -> Bool -> (List T) -> Bool -> (List T) -> Option (Int × Int × Int × Bool × (List Int) × Bool × (List Int) × Int × Int × Bool × (List Int) × Bool × (List Int) × Bool × (List T) × Bool × (List T) × Bool × (List Int) × Int × Int)
 | 0, _, _, _, _, _, _, _, _, _, _, _, _, _, _, _, _, _, _, _, _, _ => none
 | k + 1, f, g, h, b, i, j, l, m, n, d, e, o, p, q, s, t, u, v, w, y, c => cond (decide (b = 0)) ((Yaj.f k y c).bind fun a => (YaE.f k d e a.1 a.2).bind fun a5 => (Xt.f k f g h b (!a5) 7).bind fun a0 => some (i, j, l, m, n, d, e, o, p, q, s, t, u, v, w, y, c, a0.1, a0.2.1, a0.2.2.1, a0.2.2.2)) (some (i, j, l, m, n, d, e, o, p, q, s, t, u, v, w, y, c, f, g, h, b))
end
def Xw.f : Nat -> Bool -> (List Int) -> Int -> Int -> Int -> Int -> Int -> Int -> Int -> Option (Int × Int × Int × Bool × (List Int) × Bool × (List Int) × Int × Int × Bool × (List Int) × Bool × (List Int) × Bool × (List T) × Bool × (List T) × Bool × (List Int) × Int × Int)
 | 0, _, _, _, _, _, _, _, _, _ => none
 | k + 1, a6, a7, a8, a9, a1, a2, z, a3, a4 => (Yap.f k a6 a7 a8 a9 a1 a2 z a3 a4).bind fun a => (Xr.f k a.2.2.2.2.2.2.2.2.2.2.2.2.2.2.2.1 a.2.2.2.2.2.2.2.2.2.2.2.2.2.2.2.2.1 a.2.2.2.2.2.2.2.2.2.2.2.2.2.2.2.2.2.1 a.2.2.2.2.2.2.2.2.2.2.2.2.2.2.2.2.2.2).bind fun a5 => (Xt.f k a5.2.1 a5.2.2.1 a5.2.2.2.1 a5.2.2.2.2 (decide (a5.1 > z)) 3).bind fun a0 => Xw.l0 k a5.1 0 a0.1 a0.2.1 a0.2.2.1 a0.2.2.2 a1 a2 z a3 a4 a.1 a.2.1 a.2.2.1 a.2.2.2.1 a.2.2.2.2.1 a.2.2.2.2.2.1 a.2.2.2.2.2.2.1 a.2.2.2.2.2.2.2.1 a.2.2.2.2.2.2.2.2.1 a.2.2.2.2.2.2.2.2.2.1 a.2.2.2.2.2.2.2.2.2.2.1 a.2.2.2.2.2.2.2.2.2.2.2.1 a.2.2.2.2.2.2.2.2.2.2.2.2.1 a.2.2.2.2.2.2.2.2.2.2.2.2.2.1 a.2.2.2.2.2.2.2.2.2.2.2.2.2.2.1 true ([] : List T)
def Xw.enc (r : Int × Int × Int × Bool × (List Int) × Bool × (List Int) × Int × Int × Bool × (List Int) × Bool × (List Int) × Bool × (List T) × Bool × (List T) × Bool × (List Int) × Int × Int) : Res := ⟨[.vals true [((.int .i64 r.1), true), ((.int .i64 r.2.1), true), ((.int .i64 r.2.2.1), true), ((.nums 5 .u8 r.2.2.2.1 r.2.2.2.2.1), true), ((.nums 5 .u8 r.2.2.2.2.2.1 r.2.2.2.2.2.2.1), true), ((.int .i64 r.2.2.2.2.2.2.2.1), true), ((.int .i64 (e8 r).1), true), ((.nums 5 .u8 (e8 r).2.1 (e8 r).2.2.1), true), ((.nums 5 .u8 (e8 r).2.2.2.1 (e8 r).2.2.2.2.1), true), ((.sl 24 (e8 r).2.2.2.2.2.1 (e8 r).2.2.2.2.2.2.1), true), ((.sl 24 (e8 r).2.2.2.2.2.2.2.1 (e8 (e8 r)).1), true)]], [[((.nums 5 .u8 (e8 (e8 r)).2.1 (e8 (e8 r)).2.2.1), false), ((.int .i64 (e8 (e8 r)).2.2.2.1), true), ((.int .i64 (e8 (e8 r)).2.2.2.2), true)]]⟩
def Xw.ans (k : Nat) : List Arg -> Ans
 | [.box [((.nums 5 .u8 a6 a7), false), ((.int .i64 a8), false), ((.int .i64 a9), false)], .v (.agg [(.int .i64 a1), (.int .i64 a2), (.int .i64 z), (.int .i64 a3), (.int .i64 a4)])] => ⟨Xw.f k a6 a7 a8 a9 a1 a2 z a3 a4, Xw.enc⟩
 | _ => Ans.no
def Xw.cuts : List (Nat × Keep) := [(250, ⟨[(0, some []), (3, some []), (4, some []), (5, some []), (6, some []), (7, some [])], [(0, [some [], some [], some []]), (3, [some [], some [], some [], some [], some []]), (4, [some [], some [], some [], none, none, some [], some [], none, none, none, none]), (5, [some [], some [], some [], none, none, some [], some [], none, none, none, none])]⟩), (31, ⟨[(0, some []), (4, some []), (5, some [])], [(0, [some [], some [], some []]), (4, [some [], some [], some [], none, none, some [], some [], none, none, none, none]), (5, [some [], some [], some [], none, none, some [], some [], none, none, none, none])]⟩)]
noncomputable def Xw.K0 : List Fr := framesAt [true, true, true, true, false, true, false] (bodyOf Tryz.f52 Xw.cuts) []
def Xw.N0 (b0 : Int) (b1 : Int) (f : Bool) (g : List Int) (h : Int) (b : Int) (b3 : Int) (b2 : Int) (b4 : Int) (b5 : Int) (b6 : Int) (i : Int) (j : Int) (l : Int) (m : Bool) (n : List Int) (d : Bool) (e : List Int) (o : Int) (p : Int) (q : Bool) (s : List Int) (t : Bool) (u : List Int) (v : Bool) (w : List T) (y : Bool) (c : List T) : St := stOf 57 57 2 [(0, .bp 0 0), (3, .bp 3 0), (4, .bp 4 0), (5, .bp 5 0), (6, vi b0), (7, vi b1)] [(0, .cells [⟨(.nums 5 .u8 f g), [], false, none⟩, V.s (.int .i64 h), V.s (.int .i64 b)]), (3, .cells [V.s (.int .i64 b3), V.s (.int .i64 b2), V.s (.int .i64 b4), V.s (.int .i64 b5), V.s (.int .i64 b6)]), (4, .cells [V.s (.int .i64 0), V.s (.int .i64 0), V.s (.int .i64 0), ⟨(.nums 5 .u8 true ([] : List Int)), [.l 4 4], true, some (.l 4 4)⟩, ⟨(.nums 5 .u8 true ([] : List Int)), [.l 4 5], true, some (.l 4 5)⟩, V.s (.int .i64 0), V.s (.int .i64 0), ⟨(.nums 5 .u8 true ([] : List Int)), [.l 4 8], true, some (.l 4 8)⟩, ⟨(.nums 5 .u8 true ([] : List Int)), [.l 4 9], true, some (.l 4 9)⟩, ⟨(.sl 24 true ([] : List T)), [.l 4 10], true, some (.l 4 10)⟩, ⟨(.sl 24 true ([] : List T)), [.l 4 11], true, some (.l 4 11)⟩]), (5, .cells [V.s (.int .i64 i), V.s (.int .i64 j), V.s (.int .i64 l), ⟨(.nums 5 .u8 m n), [.l 5 4], true, some (.l 5 4)⟩, ⟨(.nums 5 .u8 d e), [.l 5 5], true, some (.l 5 5)⟩, V.s (.int .i64 o), V.s (.int .i64 p), ⟨(.nums 5 .u8 q s), [.l 5 8], true, some (.l 5 8)⟩, ⟨(.nums 5 .u8 t u), [.l 5 9], true, some (.l 5 9)⟩, ⟨(.sl 24 v w), [.l 5 10], true, some (.l 5 10)⟩, ⟨(.sl 24 y c), [.l 5 11], true, some (.l 5 11)⟩])]
noncomputable def Xw.K1 : List Fr := framesAt [true, true, true, true] (bodyOf Tryz.f52 Xw.cuts) []
def Xw.N1 (f : Bool) (g : List Int) (h : Int) (b : Int) (i : Int) (j : Int) (l : Int) (m : Bool) (n : List Int) (d : Bool) (e : List Int) (o : Int) (p : Int) (q : Bool) (s : List Int) (t : Bool) (u : List Int) (v : Bool) (w : List T) (y : Bool) (c : List T) : St := stOf 57 57 2 [(0, .bp 0 0), (4, .bp 4 0), (5, .bp 5 0)] [(0, .cells [⟨(.nums 5 .u8 f g), [], false, none⟩, V.s (.int .i64 h), V.s (.int .i64 b)]), (4, .cells [V.s (.int .i64 0), V.s (.int .i64 0), V.s (.int .i64 0), ⟨(.nums 5 .u8 true ([] : List Int)), [.l 4 4], true, some (.l 4 4)⟩, ⟨(.nums 5 .u8 true ([] : List Int)), [.l 4 5], true, some (.l 4 5)⟩, V.s (.int .i64 0), V.s (.int .i64 0), ⟨(.nums 5 .u8 true ([] : List Int)), [.l 4 8], true, some (.l 4 8)⟩, ⟨(.nums 5 .u8 true ([] : List Int)), [.l 4 9], true, some (.l 4 9)⟩, ⟨(.sl 24 true ([] : List T)), [.l 4 10], true, some (.l 4 10)⟩, ⟨(.sl 24 true ([] : List T)), [.l 4 11], true, some (.l 4 11)⟩]), (5, .cells [V.s (.int .i64 i), V.s (.int .i64 j), V.s (.int .i64 l), ⟨(.nums 5 .u8 m n), [.l 5 4], true, some (.l 5 4)⟩, ⟨(.nums 5 .u8 d e), [.l 5 5], true, some (.l 5 5)⟩, V.s (.int .i64 o), V.s (.int .i64 p), ⟨(.nums 5 .u8 q s), [.l 5 8], true, some (.l 5 8)⟩, ⟨(.nums 5 .u8 t u), [.l 5 9], true, some (.l 5 9)⟩, ⟨(.sl 24 v w), [.l 5 10], true, some (.l 5 10)⟩, ⟨(.sl 24 y c), [.l 5 11], true, some (.l 5 11)⟩])]
set_option maxHeartbeats 0 in
set_option maxRecDepth 100000 in
theorem Xw.r (a6) (a7) (a8) (a9) (a1) (a2) (z) (a3) (a4) (k) : (∀ b0 b1 f g h b b3 b2 b4 b5 b6 i j l m n d e o p q s t u v w y c, rounds Tryz.prog (tb [Xr.F, Xt.F, Yap.F, YaE.F, Yaw.F, Yaj.F]) (finish Tryz.prog [true, true, true, true, true, true, true, true, true, true, true, false, true, true] Tryz.f52 [.box [((.nums 5 .u8 a6 a7), false), ((.int .i64 a8), false), ((.int .i64 a9), false)], .v (.agg [(.int .i64 a1), (.int .i64 a2), (.int .i64 z), (.int .i64 a3), (.int .i64 a4)])]) 100000 k Xw.K0 (Xw.N0 b0 b1 f g h b b3 b2 b4 b5 b6 i j l m n d e o p q s t u v w y c) = (Xw.l0 k b0 b1 f g h b b3 b2 b4 b5 b6 i j l m n d e o p q s t u v w y c).map Xw.enc) /\ (∀ f g h b i j l m n d e o p q s t u v w y c, rounds Tryz.prog (tb [Xr.F, Xt.F, Yap.F, YaE.F, Yaw.F, Yaj.F]) (finish Tryz.prog [true, true, true, true, true, true, true, true, true, true, true, false, true, true] Tryz.f52 [.box [((.nums 5 .u8 a6 a7), false), ((.int .i64 a8), false), ((.int .i64 a9), false)], .v (.agg [(.int .i64 a1), (.int .i64 a2), (.int .i64 z), (.int .i64 a3), (.int .i64 a4)])]) 100000 k Xw.K1 (Xw.N1 f g h b i j l m n d e o p q s t u v w y c) = (Xw.l1 k f g h b i j l m n d e o p q s t u v w y c).map Xw.enc) := by
 induction k with
 | zero => and_intros <;> intros <;> rfl
 | succ k ih =>
  have ⟨i0, i1⟩ := ih
  and_intros <;> intros <;> simp only [Xw.l0.eq_2, Xw.l1.eq_2, mc, mb, ms, mn, <- i0, <- i1, -eq_self] <;> kernel_rfl
set_option maxHeartbeats 0 in
set_option maxRecDepth 100000 in
def Xw.F : Fn := ⟨52, Xw.ans, sd Xw.ans Tryz.func52 [Xr.F, Xt.F, Yap.F, YaE.F, Yaw.F, Yaj.F] Xw.cuts [true, true, true, true, true, true, true, true, true, true, true, false, true, true] (fun k x => by unfold Xw.ans; split; (right; rename_i a6 a7 a8 a9 a1 a2 z a3 a4; have ⟨i0, i1⟩ := Xw.r a6 a7 a8 a9 a1 a2 z a3 a4 k; change _ = Option.map Xw.enc _; simp only [Xw.f.eq_2, mc, mb, ms, mn, <- i0, <- i1, -eq_self]; kernel_rfl); exact .inl rfl) (fun x => by unfold Xw.ans; split <;> rfl)⟩
def XU.l0 : Nat -> Int -> Int -> Int -> Bool -> (List Int) -> Int -> Int -> Int -> Int -> Int -> Int -> Int -> Int -> Bool -> (List T) -> Option (Int × Bool × (List T) × Bool × (List Int) × Int × Int)
 | 0, _, _, _, _, _, _, _, _, _, _, _, _, _, _, _ => none
 | k + 1, l, z, m, g, h, i, c, n, a0, a1, a2, a3, d, o, e => cond (decide (m < l)) (cond (decide (c = 0)) ((Xr.f k g h i c).bind fun a => (Xt.f k a.2.1 a.2.2.1 a.2.2.2.1 a.2.2.2.2 (decide (a.1 >= n)) 5).bind fun b => (Xt.f k b.1 b.2.1 b.2.2.1 b.2.2.2 (decide (a.1 <= z)) 6).bind fun f => (Xr.f k f.1 f.2.1 f.2.2.1 f.2.2.2).bind fun a4 => (Xt.f k a4.2.1 a4.2.2.1 a4.2.2.2.1 a4.2.2.2.2 (decide (a4.1 >= d)) 6).bind fun a6 => (Yaa.f k a6.1 a6.2.1 a6.2.2.1 a6.2.2.2).bind fun a5 => cond (decide ((e).length + 1 < 3518437208883)) (XU.l0 k l a.1 (wrap64 (m + 1)) a5.2.2.1 a5.2.2.2.1 a5.2.2.2.2.1 a5.2.2.2.2.2 n a0 a1 a2 a3 d false (e ++ ([(.agg [(.int .i64 a.1), (.int .i64 a4.1), (.nums 5 .u8 a5.1 a5.2.1)])] : List T))) (none)) (some (d, o, e, g, h, i, c))) (some (d, o, e, g, h, i, c))
def XU.f : Nat -> Bool -> (List Int) -> Int -> Int -> Int -> Int -> Int -> Int -> Int -> Option (Int × Bool × (List T) × Bool × (List Int) × Int × Int)
 | 0, _, _, _, _, _, _, _, _, _ => none
 | k + 1, p, q, s, t, j, u, v, w, y => (Xr.f k p q s t).bind fun a => (Xr.f k a.2.1 a.2.2.1 a.2.2.2.1 a.2.2.2.2).bind fun b => (Xt.f k b.2.1 b.2.2.1 b.2.2.2.1 b.2.2.2.2 (decide (b.1 > j)) 3).bind fun f => XU.l0 k b.1 (-1) 0 f.1 f.2.1 f.2.2.1 f.2.2.2 j u v w y a.1 true ([] : List T)
def XU.enc (r : Int × Bool × (List T) × Bool × (List Int) × Int × Int) : Res := ⟨[.vals true [((.int .i64 r.1), true), ((.sl 83 r.2.1 r.2.2.1), true)]], [[((.nums 5 .u8 r.2.2.2.1 r.2.2.2.2.1), false), ((.int .i64 r.2.2.2.2.2.1), true), ((.int .i64 r.2.2.2.2.2.2), true)]]⟩
def XU.ans (k : Nat) : List Arg -> Ans
 | [.box [((.nums 5 .u8 p q), false), ((.int .i64 s), false), ((.int .i64 t), false)], .v (.agg [(.int .i64 j), (.int .i64 u), (.int .i64 v), (.int .i64 w), (.int .i64 y)])] => ⟨XU.f k p q s t j u v w y, XU.enc⟩
 | _ => Ans.no
def XU.cuts : List (Nat × Keep) := [(506, ⟨[(0, some []), (3, some []), (4, some []), (5, some []), (6, some []), (7, some []), (8, some [])], [(0, [some [], some [], some []]), (3, [some [], some [], some [], some [], some []]), (4, [some [], none]), (5, [some [], none])]⟩)]
noncomputable def XU.K0 : List Fr := framesAt [true, true, true, true, true, false, true, false] (bodyOf Tryz.f53 XU.cuts) []
def XU.N0 (l : Int) (z : Int) (m : Int) (g : Bool) (h : List Int) (i : Int) (c : Int) (n : Int) (a0 : Int) (a1 : Int) (a2 : Int) (a3 : Int) (d : Int) (o : Bool) (e : List T) : St := stOf 71 71 2 [(0, .bp 0 0), (3, .bp 3 0), (4, .bp 4 0), (5, .bp 5 0), (6, vi l), (7, vi z), (8, vi m)] [(0, .cells [⟨(.nums 5 .u8 g h), [], false, none⟩, V.s (.int .i64 i), V.s (.int .i64 c)]), (3, .cells [V.s (.int .i64 n), V.s (.int .i64 a0), V.s (.int .i64 a1), V.s (.int .i64 a2), V.s (.int .i64 a3)]), (4, .cells [V.s (.int .i64 0), ⟨(.sl 83 true ([] : List T)), [.l 4 2], true, some (.l 4 2)⟩]), (5, .cells [V.s (.int .i64 d), ⟨(.sl 83 o e), [.l 5 2], true, some (.l 5 2)⟩])]
theorem XU.r (p) (q) (s) (t) (j) (u) (v) (w) (y) (k) : (∀ l z m g h i c n a0 a1 a2 a3 d o e, rounds Tryz.prog (tb [Xr.F, Yaa.F, Xt.F]) (finish Tryz.prog [true, true, false, true, true] Tryz.f53 [.box [((.nums 5 .u8 p q), false), ((.int .i64 s), false), ((.int .i64 t), false)], .v (.agg [(.int .i64 j), (.int .i64 u), (.int .i64 v), (.int .i64 w), (.int .i64 y)])]) 100000 k XU.K0 (XU.N0 l z m g h i c n a0 a1 a2 a3 d o e) = (XU.l0 k l z m g h i c n a0 a1 a2 a3 d o e).map XU.enc) := by
 induction k with
 | zero => intros <;> rfl
 | succ k ih =>
  have i0 := ih
  intros <;> simp only [XU.l0.eq_2, mc, mb, ms, mn, <- i0, -eq_self] <;> kernel_rfl
def XU.F : Fn := ⟨53, XU.ans, sd XU.ans Tryz.func53 [Xr.F, Yaa.F, Xt.F] XU.cuts [true, true, false, true, true] (fun k x => by unfold XU.ans; split; (right; rename_i p q s t j u v w y; have i0 := XU.r p q s t j u v w y k; change _ = Option.map XU.enc _; simp only [XU.f.eq_2, mc, mb, ms, mn, <- i0, -eq_self]; kernel_rfl); exact .inl rfl) (fun x => by unfold XU.ans; split <;> rfl)⟩
def YaQ.f : Nat -> Bool -> (List T) -> Int -> Int -> Bool -> (List Int) -> Bool -> (List Int) -> Bool -> (List T) -> Option Bool
 | 0, _, _, _, _, _, _, _, _, _, _ => none
 | k + 1, d, a, b, c, e, f, g, h, i, j => cond (decide ((0 : Int) <= (wrap64 (((a).length : Int) - 1)))) (cond (decide ((wrap64 (((a).length : Int) - 1)) < ((a).length : Int))) (cond (decide (b = ((((a).getD ((wrap64 (((a).length : Int) - 1))).toNat .bad).cells.getD 0 .bad)).toInt)) (some (decide (c = ((((a).getD ((wrap64 (((a).length : Int) - 1))).toNat .bad).cells.getD 1 .bad)).toInt))) (some false)) (none)) (none)
def YaQ.enc (r : Bool) : Res := ⟨[.vals false [((.bool r), true)]], []⟩
def YaQ.ans (k : Nat) : List Arg -> Ans
 | [.v (.agg [(.sl 54 d a), (.int .i64 b), (.int .i64 c), (.nums 5 .u8 e f), (.nums 5 .u8 g h), (.sl 24 i j)])] => ⟨YaQ.f k d a b c e f g h i j, YaQ.enc⟩
 | _ => Ans.no
def YaQ.F : Fn := ⟨84, YaQ.ans, sd YaQ.ans Tryz.func84 [] [] [] (fun k x => by unfold YaQ.ans; split; (right; change _ = Option.map YaQ.enc _; simp only [YaQ.f.eq_2, mc, mb, ms, mn, -eq_self]; kernel_rfl); exact .inl rfl) (fun x => by unfold YaQ.ans; split <;> rfl)⟩
mutual
def Xx.l0 : Nat -> Int -> Int -> Bool -> (List Int) -> Int -> Int -> Int -> Int -> Int -> Int -> Int -> Bool -> (List T) -> Option (Bool × (List T) × Int × Int × Bool × (List Int) × Bool × (List Int) × Bool × (List T) × Bool × (List Int) × Int × Int)
 | 0, _, _, _, _, _, _, _, _, _, _, _, _, _ => none
 | k + 1, z, a0, j, l, m, c, d, e, f, g, h, i, b => cond (decide (a0 < z)) (cond (decide (c = 0)) ((Yap.f k j l m c d e f g h).bind fun a => cond (decide ((b).length + 1 < 879609302220)) (Xx.l0 k z (wrap64 (a0 + 1)) a.2.2.2.2.2.2.2.2.2.2.2.2.2.2.2.1 a.2.2.2.2.2.2.2.2.2.2.2.2.2.2.2.2.1 a.2.2.2.2.2.2.2.2.2.2.2.2.2.2.2.2.2.1 a.2.2.2.2.2.2.2.2.2.2.2.2.2.2.2.2.2.2 d e f g h false (b ++ ([(.agg [(.int .i64 a.1), (.int .i64 a.2.1), (.int .i64 a.2.2.1), (.nums 5 .u8 a.2.2.2.1 a.2.2.2.2.1), (.nums 5 .u8 a.2.2.2.2.2.1 a.2.2.2.2.2.2.1), (.int .i64 a.2.2.2.2.2.2.2.1), (.int .i64 a.2.2.2.2.2.2.2.2.1), (.nums 5 .u8 a.2.2.2.2.2.2.2.2.2.1 a.2.2.2.2.2.2.2.2.2.2.1), (.nums 5 .u8 a.2.2.2.2.2.2.2.2.2.2.2.1 a.2.2.2.2.2.2.2.2.2.2.2.2.1), (.sl 24 a.2.2.2.2.2.2.2.2.2.2.2.2.2.1 a.2.2.2.2.2.2.2.2.2.2.2.2.2.2.1)])] : List T))) (none)) (Xx.l1 k j l m c d e f g h i b)) (Xx.l1 k j l m c d e f g h i b)
def Xx.l1 : Nat -> Bool -> (List Int) -> Int -> Int -> Int -> Int -> Int -> Int -> Int -> Bool -> (List T) -> Option (Bool × (List T) × Int × Int × Bool × (List Int) × Bool × (List Int) × Bool × (List T) × Bool × (List Int) × Int × Int)
 | 0, _, _, _, _, _, _, _, _, _, _, _ => none
 | k + 1, j, l, m, c, d, e, f, g, h, i, b => (Xl.f k j l m c d e f g h).bind fun a => cond (decide (a.2.2.2.2.2.2.2.2.2.2.2 = 0)) ((YaQ.f k i b a.1 a.2.1 a.2.2.1 a.2.2.2.1 a.2.2.2.2.1 a.2.2.2.2.2.1 a.2.2.2.2.2.2.1 a.2.2.2.2.2.2.2.1).bind fun a1 => (Xt.f k a.2.2.2.2.2.2.2.2.1 a.2.2.2.2.2.2.2.2.2.1 a.2.2.2.2.2.2.2.2.2.2.1 a.2.2.2.2.2.2.2.2.2.2.2 (!a1) 6).bind fun n => some (i, b, a.1, a.2.1, a.2.2.1, a.2.2.2.1, a.2.2.2.2.1, a.2.2.2.2.2.1, a.2.2.2.2.2.2.1, a.2.2.2.2.2.2.2.1, n.1, n.2.1, n.2.2.1, n.2.2.2)) (some (i, b, a.1, a.2.1, a.2.2.1, a.2.2.2.1, a.2.2.2.2.1, a.2.2.2.2.2.1, a.2.2.2.2.2.2.1, a.2.2.2.2.2.2.2.1, a.2.2.2.2.2.2.2.2.1, a.2.2.2.2.2.2.2.2.2.1, a.2.2.2.2.2.2.2.2.2.2.1, a.2.2.2.2.2.2.2.2.2.2.2))
end
def Xx.f : Nat -> Bool -> (List Int) -> Int -> Int -> Int -> Int -> Int -> Int -> Int -> Option (Bool × (List T) × Int × Int × Bool × (List Int) × Bool × (List Int) × Bool × (List T) × Bool × (List Int) × Int × Int)
 | 0, _, _, _, _, _, _, _, _, _ => none
 | k + 1, p, q, s, t, u, v, w, y, o => (Xr.f k p q s t).bind fun a => (Xt.f k a.2.1 a.2.2.1 a.2.2.2.1 a.2.2.2.2 (decide (a.1 < 3)) 5).bind fun a1 => (Xt.f k a1.1 a1.2.1 a1.2.2.1 a1.2.2.2 (decide (a.1 > o)) 3).bind fun n => Xx.l0 k a.1 0 n.1 n.2.1 n.2.2.1 n.2.2.2 u v w y o true ([] : List T)
def Xx.enc (r : Bool × (List T) × Int × Int × Bool × (List Int) × Bool × (List Int) × Bool × (List T) × Bool × (List Int) × Int × Int) : Res := ⟨[.vals true [((.sl 54 r.1 r.2.1), true), ((.int .i64 r.2.2.1), true), ((.int .i64 r.2.2.2.1), true), ((.nums 5 .u8 r.2.2.2.2.1 r.2.2.2.2.2.1), true), ((.nums 5 .u8 r.2.2.2.2.2.2.1 r.2.2.2.2.2.2.2.1), true), ((.sl 24 (e8 r).1 (e8 r).2.1), true)]], [[((.nums 5 .u8 (e8 r).2.2.1 (e8 r).2.2.2.1), false), ((.int .i64 (e8 r).2.2.2.2.1), true), ((.int .i64 (e8 r).2.2.2.2.2), true)]]⟩
def Xx.ans (k : Nat) : List Arg -> Ans
 | [.box [((.nums 5 .u8 p q), false), ((.int .i64 s), false), ((.int .i64 t), false)], .v (.agg [(.int .i64 u), (.int .i64 v), (.int .i64 w), (.int .i64 y), (.int .i64 o)])] => ⟨Xx.f k p q s t u v w y o, Xx.enc⟩
 | _ => Ans.no
def Xx.cuts : List (Nat × Keep) := [(506, ⟨[(0, some []), (3, some []), (4, some []), (5, some []), (6, some []), (7, some [])], [(0, [some [], some [], some []]), (3, [some [], some [], some [], some [], some []]), (4, [none, some [], some [], none, none, none]), (5, [none, some [], some [], none, none, none])]⟩), (63, ⟨[(0, some []), (3, some []), (4, some []), (5, some [])], [(0, [some [], some [], some []]), (3, [some [], some [], some [], some [], some []]), (4, [none, some [], some [], none, none, none]), (5, [none, some [], some [], none, none, none])]⟩)]
noncomputable def Xx.K0 : List Fr := framesAt [true, true, true, true, true, false, true, false] (bodyOf Tryz.f54 Xx.cuts) []
def Xx.N0 (z : Int) (a0 : Int) (j : Bool) (l : List Int) (m : Int) (c : Int) (d : Int) (e : Int) (f : Int) (g : Int) (h : Int) (i : Bool) (b : List T) : St := stOf 56 56 2 [(0, .bp 0 0), (3, .bp 3 0), (4, .bp 4 0), (5, .bp 5 0), (6, vi z), (7, vi a0)] [(0, .cells [⟨(.nums 5 .u8 j l), [], false, none⟩, V.s (.int .i64 m), V.s (.int .i64 c)]), (3, .cells [V.s (.int .i64 d), V.s (.int .i64 e), V.s (.int .i64 f), V.s (.int .i64 g), V.s (.int .i64 h)]), (4, .cells [⟨(.sl 54 true ([] : List T)), [.l 4 1], true, some (.l 4 1)⟩, V.s (.int .i64 0), V.s (.int .i64 0), ⟨(.nums 5 .u8 true ([] : List Int)), [.l 4 4], true, some (.l 4 4)⟩, ⟨(.nums 5 .u8 true ([] : List Int)), [.l 4 5], true, some (.l 4 5)⟩, ⟨(.sl 24 true ([] : List T)), [.l 4 6], true, some (.l 4 6)⟩]), (5, .cells [⟨(.sl 54 i b), [.l 5 1], true, some (.l 5 1)⟩, V.s (.int .i64 0), V.s (.int .i64 0), ⟨(.nums 5 .u8 true ([] : List Int)), [.l 5 4], true, some (.l 5 4)⟩, ⟨(.nums 5 .u8 true ([] : List Int)), [.l 5 5], true, some (.l 5 5)⟩, ⟨(.sl 24 true ([] : List T)), [.l 5 6], true, some (.l 5 6)⟩])]
noncomputable def Xx.K1 : List Fr := framesAt [true, true, true, true, true] (bodyOf Tryz.f54 Xx.cuts) []
def Xx.N1 (j : Bool) (l : List Int) (m : Int) (c : Int) (d : Int) (e : Int) (f : Int) (g : Int) (h : Int) (i : Bool) (b : List T) : St := stOf 56 56 2 [(0, .bp 0 0), (3, .bp 3 0), (4, .bp 4 0), (5, .bp 5 0)] [(0, .cells [⟨(.nums 5 .u8 j l), [], false, none⟩, V.s (.int .i64 m), V.s (.int .i64 c)]), (3, .cells [V.s (.int .i64 d), V.s (.int .i64 e), V.s (.int .i64 f), V.s (.int .i64 g), V.s (.int .i64 h)]), (4, .cells [⟨(.sl 54 true ([] : List T)), [.l 4 1], true, some (.l 4 1)⟩, V.s (.int .i64 0), V.s (.int .i64 0), ⟨(.nums 5 .u8 true ([] : List Int)), [.l 4 4], true, some (.l 4 4)⟩, ⟨(.nums 5 .u8 true ([] : List Int)), [.l 4 5], true, some (.l 4 5)⟩, ⟨(.sl 24 true ([] : List T)), [.l 4 6], true, some (.l 4 6)⟩]), (5, .cells [⟨(.sl 54 i b), [.l 5 1], true, some (.l 5 1)⟩, V.s (.int .i64 0), V.s (.int .i64 0), ⟨(.nums 5 .u8 true ([] : List Int)), [.l 5 4], true, some (.l 5 4)⟩, ⟨(.nums 5 .u8 true ([] : List Int)), [.l 5 5], true, some (.l 5 5)⟩, ⟨(.sl 24 true ([] : List T)), [.l 5 6], true, some (.l 5 6)⟩])]
set_option maxHeartbeats 0 in
set_option maxRecDepth 100000 in
theorem Xx.r (p) (q) (s) (t) (u) (v) (w) (y) (o) (k) : (∀ z a0 j l m c d e f g h i b, rounds Tryz.prog (tb [Xr.F, Xt.F, Xl.F, Yap.F, YaQ.F]) (finish Tryz.prog [true, true, true, true, true, true, false, true, true] Tryz.f54 [.box [((.nums 5 .u8 p q), false), ((.int .i64 s), false), ((.int .i64 t), false)], .v (.agg [(.int .i64 u), (.int .i64 v), (.int .i64 w), (.int .i64 y), (.int .i64 o)])]) 100000 k Xx.K0 (Xx.N0 z a0 j l m c d e f g h i b) = (Xx.l0 k z a0 j l m c d e f g h i b).map Xx.enc) /\ (∀ j l m c d e f g h i b, rounds Tryz.prog (tb [Xr.F, Xt.F, Xl.F, Yap.F, YaQ.F]) (finish Tryz.prog [true, true, true, true, true, true, false, true, true] Tryz.f54 [.box [((.nums 5 .u8 p q), false), ((.int .i64 s), false), ((.int .i64 t), false)], .v (.agg [(.int .i64 u), (.int .i64 v), (.int .i64 w), (.int .i64 y), (.int .i64 o)])]) 100000 k Xx.K1 (Xx.N1 j l m c d e f g h i b) = (Xx.l1 k j l m c d e f g h i b).map Xx.enc) := by
 induction k with
 | zero => and_intros <;> intros <;> rfl
 | succ k ih =>
  have ⟨i0, i1⟩ := ih
  and_intros <;> intros <;> simp only [Xx.l0.eq_2, Xx.l1.eq_2, mc, mb, ms, mn, <- i0, <- i1, -eq_self] <;> kernel_rfl
set_option maxHeartbeats 0 in
set_option maxRecDepth 100000 in
def Xx.F : Fn := ⟨54, Xx.ans, sd Xx.ans Tryz.func54 [Xr.F, Xt.F, Xl.F, Yap.F, YaQ.F] Xx.cuts [true, true, true, true, true, true, false, true, true] (fun k x => by unfold Xx.ans; split; (right; rename_i p q s t u v w y o; have ⟨i0, i1⟩ := Xx.r p q s t u v w y o k; change _ = Option.map Xx.enc _; simp only [Xx.f.eq_2, mc, mb, ms, mn, <- i0, <- i1, -eq_self]; kernel_rfl); exact .inl rfl) (fun x => by unfold Xx.ans; split <;> rfl)⟩
def Ybj.f : Nat -> Int -> Int -> Option Bool
 | 0, _, _ => none
 | k + 1, b, a => (XI.f k a 1 1048576).bind fun c => cond c ((XI.f k b 0 (wrap64 (a - 1))).bind fun d => some d) (some false)
def Ybj.enc (r : Bool) : Res := ⟨[.vals false [((.bool r), true)]], []⟩
def Ybj.ans (k : Nat) : List Arg -> Ans
 | [.v (.int .i64 b), .v (.int .i64 a)] => ⟨Ybj.f k b a, Ybj.enc⟩
 | _ => Ans.no
def Ybj.F : Fn := ⟨118, Ybj.ans, sd Ybj.ans Tryz.func118 [XI.F] [] [] (fun k x => by unfold Ybj.ans; split; (right; change _ = Option.map Ybj.enc _; simp only [Ybj.f.eq_2, mc, mb, ms, mn, -eq_self]; kernel_rfl); exact .inl rfl) (fun x => by unfold Ybj.ans; split <;> rfl)⟩
def Yal.f : Nat -> Int -> Int -> Option Int
 | 0, _, _ => none
 | k + 1, b, c => (Ybj.f k b c).bind fun f => cond (!f) (some 0) (cond (decide (c = 1)) (some 0) ((XK.f k c).bind fun d => cond (decide (b < d)) ((Yal.f k b d).bind fun e => some (wrap64 ((1 : Int) + e))) ((Yal.f k (wrap64 (b - d)) (wrap64 (c - d))).bind fun e => some (wrap64 ((1 : Int) + e)))))
def Yal.enc (r : Int) : Res := ⟨[.vals false [((.int .i64 r), true)]], []⟩
def Yal.ans (k : Nat) : List Arg -> Ans
 | [.v (.int .i64 b), .v (.int .i64 c)] => ⟨Yal.f k b c, Yal.enc⟩
 | _ => Ans.no
def Yal.Cs (k : Nat) : CallSem := tab [(116, XK.ans k), (118, Ybj.ans k), (85, Yal.ans k)]
theorem Yal.eq (k b c) : answer Tryz.prog (Yal.Cs) 100000 [] [] Tryz.f85 (k + 1) [.v (.int .i64 b), .v (.int .i64 c)] = (Yal.f (k + 1) b c).map Yal.enc := by
 rw [Yal.f.eq_2]; simp only [mc, mb, ms, mn, -eq_self]; show _ = _; kernel_rfl
theorem Yal.sound (k : Nat) : SoundF Tryz.prog 85 (fun a => (Yal.ans k a).val) := by
 induction k using Nat.strongRecOn with
 | _ k sih =>
 match k, sih with
 | 0, _ =>
  refine qw (fun args res h => ?_) (fun t n => rfl)
  unfold Yal.ans at h
  dsimp only at h
  split at h
  ·cases h
  ·exact (Ans.no_val h).elim
 | k + 1, sih =>
  refine qw (fun args res h => ?_) (fun t n => rfl)
  unfold Yal.ans at h
  dsimp only at h
  split at h
  ·unfold Ans.val at h
   rw [<- Yal.eq] at h
   exact qB mixed Tryz.func85 _ _ _ (k + 1) (fun j hj => qu (qp (XK.F.s j) (qp (Ybj.F.s j) (qp (sih j hj) (qaL))))) _ _ h
  ·exact (Ans.no_val h).elim
def Yal.F : Fn := ⟨85, Yal.ans, Yal.sound⟩
def XV.l0 : Nat -> Int -> Bool -> (List Int) -> Int -> Int -> Int -> Int -> Int -> Bool -> (List Int) -> Bool -> (List T) -> Option (Int × Int × Int × Bool × (List Int) × Bool × (List T) × Bool × (List Int) × Int × Int)
 | 0, _, _, _, _, _, _, _, _, _, _, _, _ => none
 | k + 1, m, f, g, h, b, i, c, d, j, l, n, e => cond (decide (b = 0)) ((Yal.f k d c).bind fun o => cond (decide (m < o)) ((Yaa.f k f g h b).bind fun a => cond (decide ((e).length + 1 < 5864062014805)) (XV.l0 k (wrap64 (m + 1)) a.2.2.1 a.2.2.2.1 a.2.2.2.2.1 a.2.2.2.2.2 i c d j l false (e ++ ([(.nums 5 .u8 a.1 a.2.1)] : List T))) (none)) (some (i, c, d, j, l, n, e, f, g, h, b))) (some (i, c, d, j, l, n, e, f, g, h, b))
def XV.f : Nat -> Bool -> (List Int) -> Int -> Int -> Int -> Int -> Int -> Int -> Int -> Option (Int × Int × Int × Bool × (List Int) × Bool × (List T) × Bool × (List Int) × Int × Int)
 | 0, _, _, _, _, _, _, _, _, _ => none
 | k + 1, p, q, s, t, w, u, v, y, z => (Xr.f k p q s t).bind fun o => (Xr.f k o.2.1 o.2.2.1 o.2.2.2.1 o.2.2.2.2).bind fun a => (Xt.f k a.2.1 a.2.2.1 a.2.2.2.1 a.2.2.2.2 (decide (a.1 = 0)) 5).bind fun a2 => (Xt.f k a2.1 a2.2.1 a2.2.2.1 a2.2.2.2 (decide (a.1 > v)) 3).bind fun a3 => (Xr.f k a3.1 a3.2.1 a3.2.2.1 a3.2.2.2).bind fun a0 => (Xt.f k a0.2.1 a0.2.2.1 a0.2.2.2.1 a0.2.2.2.2 (decide (a0.1 >= a.1)) 5).bind fun a4 => (Yaw.f k a4.1 a4.2.1 a4.2.2.1 a4.2.2.2 u).bind fun a1 => XV.l0 k 0 a1.2.2.1 a1.2.2.2.1 a1.2.2.2.2.1 a1.2.2.2.2.2 o.1 a.1 a0.1 a1.1 a1.2.1 true ([] : List T)
def XV.enc (r : Int × Int × Int × Bool × (List Int) × Bool × (List T) × Bool × (List Int) × Int × Int) : Res := ⟨[.vals true [((.int .i64 r.1), true), ((.int .i64 r.2.1), true), ((.int .i64 r.2.2.1), true), ((.nums 5 .u8 r.2.2.2.1 r.2.2.2.2.1), true), ((.sl 24 r.2.2.2.2.2.1 r.2.2.2.2.2.2.1), true)]], [[((.nums 5 .u8 r.2.2.2.2.2.2.2.1 (e8 r).1), false), ((.int .i64 (e8 r).2.1), true), ((.int .i64 (e8 r).2.2), true)]]⟩
def XV.ans (k : Nat) : List Arg -> Ans
 | [.box [((.nums 5 .u8 p q), false), ((.int .i64 s), false), ((.int .i64 t), false)], .v (.agg [(.int .i64 w), (.int .i64 u), (.int .i64 v), (.int .i64 y), (.int .i64 z)])] => ⟨XV.f k p q s t w u v y z, XV.enc⟩
 | _ => Ans.no
def XV.cuts : List (Nat × Keep) := [(4090, ⟨[(0, some []), (4, some []), (5, some []), (6, some [])], [(0, [some [], some [], some []]), (4, [some [], some [], some [], none, none]), (5, [some [], some [], some [], none, none])]⟩)]
noncomputable def XV.K0 : List Fr := framesAt [true, true, true, true, true, true, true, true, false, true, false] (bodyOf Tryz.f55 XV.cuts) []
def XV.N0 (m : Int) (f : Bool) (g : List Int) (h : Int) (b : Int) (i : Int) (c : Int) (d : Int) (j : Bool) (l : List Int) (n : Bool) (e : List T) : St := stOf 64 64 2 [(0, .bp 0 0), (4, .bp 4 0), (5, .bp 5 0), (6, vi m)] [(0, .cells [⟨(.nums 5 .u8 f g), [], false, none⟩, V.s (.int .i64 h), V.s (.int .i64 b)]), (4, .cells [V.s (.int .i64 0), V.s (.int .i64 0), V.s (.int .i64 0), ⟨(.nums 5 .u8 true ([] : List Int)), [.l 4 4], true, some (.l 4 4)⟩, ⟨(.sl 24 true ([] : List T)), [.l 4 5], true, some (.l 4 5)⟩]), (5, .cells [V.s (.int .i64 i), V.s (.int .i64 c), V.s (.int .i64 d), ⟨(.nums 5 .u8 j l), [.l 5 4], true, some (.l 5 4)⟩, ⟨(.sl 24 n e), [.l 5 5], true, some (.l 5 5)⟩])]
theorem XV.r (p) (q) (s) (t) (w) (u) (v) (y) (z) (k) : (∀ m f g h b i c d j l n e, rounds Tryz.prog (tb [Xr.F, Yaa.F, Xt.F, Yaw.F, Yal.F]) (finish Tryz.prog [true, true, true, true, true, false, true, true] Tryz.f55 [.box [((.nums 5 .u8 p q), false), ((.int .i64 s), false), ((.int .i64 t), false)], .v (.agg [(.int .i64 w), (.int .i64 u), (.int .i64 v), (.int .i64 y), (.int .i64 z)])]) 100000 k XV.K0 (XV.N0 m f g h b i c d j l n e) = (XV.l0 k m f g h b i c d j l n e).map XV.enc) := by
 induction k with
 | zero => intros <;> rfl
 | succ k ih =>
  have i0 := ih
  intros <;> simp only [XV.l0.eq_2, mc, mb, ms, mn, <- i0, -eq_self] <;> kernel_rfl
def XV.F : Fn := ⟨55, XV.ans, sd XV.ans Tryz.func55 [Xr.F, Yaa.F, Xt.F, Yaw.F, Yal.F] XV.cuts [true, true, true, true, true, false, true, true] (fun k x => by unfold XV.ans; split; (right; rename_i p q s t w u v y z; have i0 := XV.r p q s t w u v y z k; change _ = Option.map XV.enc _; simp only [XV.f.eq_2, mc, mb, ms, mn, <- i0, -eq_self]; kernel_rfl); exact .inl rfl) (fun x => by unfold XV.ans; split <;> rfl)⟩
end Go.Proofs.YthocpcfjfgnkgaaGreatG
