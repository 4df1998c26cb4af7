/- What the functions compute, printed by a program of this repo; each is shown to be what the machine of values answers. Names are short, for the claim's size. No condition. -/
import Derived.Test.YthocpcfjfgnkgaaGreatProg
import Derived.KernelRfl
import Derived.Test.YthocpcfjfgnkgaaGreatGFnExactCloseb
namespace Go.Proofs.YthocpcfjfgnkgaaGreatG
open Go Go.Proofs.YthocpcfjfgnkgaaGreatRv Go.Proofs Go.RowKit
set_option linter.unusedVariables false
set_option linter.unusedSimpArgs false
def XB.l0 : Nat -> Bool -> (List Int) -> Int -> Int -> Int -> Bool -> (List Int) -> Int -> Bool -> (List Int) -> Int -> Int -> Bool -> (List Int) -> Bool -> (List Int) -> Bool -> (List T) -> Int -> Int -> Int -> Bool -> (List Int) -> Bool -> (List Int) -> Int -> Int -> Bool -> (List Int) -> Bool -> (List Int) -> Bool -> (List T) -> Int -> Int -> Int -> Bool -> (List Int) -> Bool -> (List Int) -> Int -> Int -> Bool -> (List Int) -> Bool -> (List Int) -> Bool -> (List T) -> Bool -> (List T) -> Int -> Bool -> (List T) -> Bool -> (List T) -> Int -> Int -> Bool -> (List Int) -> Bool -> (List Int) -> Bool -> (List T) -> Int -> Int -> Int -> Bool -> (List Int) -> Bool -> (List T) -> Bool -> (List Int) -> Int -> Int -> Option (Int × Int × Int × Bool × (List Int) × Int × Bool × (List Int) × Int × Int × Bool × (List Int) × Bool × (List Int) × Bool × (List T) × Int × Int × Int × Bool × (List Int) × Bool × (List Int) × Int × Int × Bool × (List Int) × Bool × (List Int) × Bool × (List T) × Int × Int × Int × Bool × (List Int) × Bool × (List Int) × Int × Int × Bool × (List Int) × Bool × (List Int) × Bool × (List T) × Bool × (List T) × Int × Bool × (List T) × Bool × (List T) × Int × Int × Bool × (List Int) × Bool × (List Int) × Bool × (List T) × Int × Int × Int × Bool × (List Int) × Bool × (List T) × Int)
 | 0, _, _, _, _, _, _, _, _, _, _, _, _, _, _, _, _, _, _, _, _, _, _, _, _, _, _, _, _, _, _, _, _, _, _, _, _, _, _, _, _, _, _, _, _, _, _, _, _, _, _, _, _, _, _, _, _, _, _, _, _, _, _, _, _, _, _, _, _, _, _, _, _, _, _ => none
 | k + 1, g0, l, m, n, o, p, q, s, t, u, v, w, y, z, a0, a1, a2, a3, a4, a5, a6, a7, a8, a9, b0, b1, b2, b3, b4, b5, b6, b7, b8, b9, c0, c1, c2, c3, c4, c5, c6, c7, c8, c9, d0, d1, d2, d3, d4, d5, d6, d7, d8, d9, e0, e1, e2, e3, e4, e5, e6, e7, e9, f0, f1, f2, f3, f4, f5, f6, f7, f8, j, f9 => (Xt.f k f7 f8 j f9 (!(decide (j = ((l).length : Int)))) 9).bind fun g1 => cond (!(decide (g1.2.2.2 = 0))) (some (0, 0, 0, true, ([] : List Int), 0, true, ([] : List Int), 0, 0, true, ([] : List Int), true, ([] : List Int), true, ([] : List T), 0, 0, 0, true, ([] : List Int), true, ([] : List Int), 0, 0, true, ([] : List Int), true, ([] : List Int), true, ([] : List T), 0, 0, 0, true, ([] : List Int), true, ([] : List Int), 0, 0, true, ([] : List Int), true, ([] : List Int), true, ([] : List T), true, ([] : List T), 0, true, ([] : List T), true, ([] : List T), 0, 0, true, ([] : List Int), true, ([] : List Int), true, ([] : List T), 0, 0, 0, true, ([] : List Int), true, ([] : List T), g1.2.2.2)) (some (m, n, o, p, q, s, t, u, v, w, y, z, a0, a1, a2, a3, a4, a5, a6, a7, a8, a9, b0, b1, b2, b3, b4, b5, b6, b7, b8, b9, c0, c1, c2, c3, c4, c5, c6, c7, c8, c9, d0, d1, d2, d3, d4, d5, d6, d7, d8, d9, e0, e1, e2, e3, e4, e5, e6, e7, e9, f0, f1, f2, f3, f4, f5, f6, 0))
def XB.f : Nat -> Int -> Int -> Int -> Int -> Int -> Bool -> (List Int) -> Option (Int × Int × Int × Bool × (List Int) × Int × Bool × (List Int) × Int × Int × Bool × (List Int) × Bool × (List Int) × Bool × (List T) × Int × Int × Int × Bool × (List Int) × Bool × (List Int) × Int × Int × Bool × (List Int) × Bool × (List Int) × Bool × (List T) × Int × Int × Int × Bool × (List Int) × Bool × (List Int) × Int × Int × Bool × (List Int) × Bool × (List Int) × Bool × (List T) × Bool × (List T) × Int × Bool × (List T) × Bool × (List T) × Int × Int × Bool × (List Int) × Bool × (List Int) × Bool × (List T) × Int × Int × Int × Bool × (List Int) × Bool × (List T) × Int)
 | 0, _, _, _, _, _, _, _ => none
 | k + 1, e, f, g, h, i, d, b => (Yaq.f k e f g h i).bind fun g1 => cond (!g1) (some (0, 0, 0, true, ([] : List Int), 0, true, ([] : List Int), 0, 0, true, ([] : List Int), true, ([] : List Int), true, ([] : List T), 0, 0, 0, true, ([] : List Int), true, ([] : List Int), 0, 0, true, ([] : List Int), true, ([] : List Int), true, ([] : List T), 0, 0, 0, true, ([] : List Int), true, ([] : List Int), 0, 0, true, ([] : List Int), true, ([] : List Int), true, ([] : List T), true, ([] : List T), 0, true, ([] : List T), true, ([] : List T), 0, 0, true, ([] : List Int), true, ([] : List Int), true, ([] : List T), 0, 0, 0, true, ([] : List Int), true, ([] : List T), 5)) (cond (decide (((b).length : Int) = 0)) (some (0, 0, 0, true, ([] : List Int), 0, true, ([] : List Int), 0, 0, true, ([] : List Int), true, ([] : List Int), true, ([] : List T), 0, 0, 0, true, ([] : List Int), true, ([] : List Int), 0, 0, true, ([] : List Int), true, ([] : List Int), true, ([] : List T), 0, 0, 0, true, ([] : List Int), true, ([] : List Int), 0, 0, true, ([] : List Int), true, ([] : List Int), true, ([] : List T), true, ([] : List T), 0, true, ([] : List T), true, ([] : List T), 0, 0, true, ([] : List Int), true, ([] : List Int), true, ([] : List T), 0, 0, 0, true, ([] : List Int), true, ([] : List T), 1)) (cond (decide ((0 : Int) < ((b).length : Int))) ((YaG.f k e f g h i d b 1).bind fun c => cond (decide ((wrap64 ((rdI b 0))) = 1)) ((Ybd.f k e f g h i d b 1).bind fun a => XB.l0 k d b (wrap64 ((rdI b 0))) a.1 a.2.1 a.2.2.1 a.2.2.2.1 a.2.2.2.2.1 a.2.2.2.2.2.1 a.2.2.2.2.2.2.1 0 0 true ([] : List Int) true ([] : List Int) true ([] : List T) 0 0 0 true ([] : List Int) true ([] : List Int) 0 0 true ([] : List Int) true ([] : List Int) true ([] : List T) 0 0 0 true ([] : List Int) true ([] : List Int) 0 0 true ([] : List Int) true ([] : List Int) true ([] : List T) true ([] : List T) 0 true ([] : List T) true ([] : List T) 0 0 true ([] : List Int) true ([] : List Int) true ([] : List T) 0 0 0 true ([] : List Int) true ([] : List T) c.1 c.2.1 a.2.2.2.2.2.2.2.1 a.2.2.2.2.2.2.2.2) (cond (decide ((wrap64 ((rdI b 0))) = 2)) ((Xl.f k c.1 c.2.1 c.2.2.1 c.2.2.2 e f g h i).bind fun a => XB.l0 k d b (wrap64 ((rdI b 0))) 0 0 true ([] : List Int) 0 true ([] : List Int) a.1 a.2.1 a.2.2.1 a.2.2.2.1 a.2.2.2.2.1 a.2.2.2.2.2.1 a.2.2.2.2.2.2.1 a.2.2.2.2.2.2.2.1 0 0 0 true ([] : List Int) true ([] : List Int) 0 0 true ([] : List Int) true ([] : List Int) true ([] : List T) 0 0 0 true ([] : List Int) true ([] : List Int) 0 0 true ([] : List Int) true ([] : List Int) true ([] : List T) true ([] : List T) 0 true ([] : List T) true ([] : List T) 0 0 true ([] : List Int) true ([] : List Int) true ([] : List T) 0 0 0 true ([] : List Int) true ([] : List T) a.2.2.2.2.2.2.2.2.1 a.2.2.2.2.2.2.2.2.2.1 a.2.2.2.2.2.2.2.2.2.2.1 a.2.2.2.2.2.2.2.2.2.2.2) (cond (decide ((wrap64 ((rdI b 0))) = 3)) ((Yap.f k c.1 c.2.1 c.2.2.1 c.2.2.2 e f g h i).bind fun a => XB.l0 k d b (wrap64 ((rdI b 0))) 0 0 true ([] : List Int) 0 true ([] : List Int) 0 0 true ([] : List Int) true ([] : List Int) true ([] : List T) a.1 a.2.1 a.2.2.1 a.2.2.2.1 a.2.2.2.2.1 a.2.2.2.2.2.1 a.2.2.2.2.2.2.1 a.2.2.2.2.2.2.2.1 a.2.2.2.2.2.2.2.2.1 a.2.2.2.2.2.2.2.2.2.1 a.2.2.2.2.2.2.2.2.2.2.1 a.2.2.2.2.2.2.2.2.2.2.2.1 a.2.2.2.2.2.2.2.2.2.2.2.2.1 a.2.2.2.2.2.2.2.2.2.2.2.2.2.1 a.2.2.2.2.2.2.2.2.2.2.2.2.2.2.1 0 0 0 true ([] : List Int) true ([] : List Int) 0 0 true ([] : List Int) true ([] : List Int) true ([] : List T) true ([] : List T) 0 true ([] : List T) true ([] : List T) 0 0 true ([] : List Int) true ([] : List Int) true ([] : List T) 0 0 0 true ([] : List Int) true ([] : List T) a.2.2.2.2.2.2.2.2.2.2.2.2.2.2.2.1 a.2.2.2.2.2.2.2.2.2.2.2.2.2.2.2.2.1 a.2.2.2.2.2.2.2.2.2.2.2.2.2.2.2.2.2.1 a.2.2.2.2.2.2.2.2.2.2.2.2.2.2.2.2.2.2) (cond (decide ((wrap64 ((rdI b 0))) = 4)) ((Xw.f k c.1 c.2.1 c.2.2.1 c.2.2.2 e f g h i).bind fun a => XB.l0 k d b (wrap64 ((rdI b 0))) 0 0 true ([] : List Int) 0 true ([] : List Int) 0 0 true ([] : List Int) true ([] : List Int) true ([] : List T) 0 0 0 true ([] : List Int) true ([] : List Int) 0 0 true ([] : List Int) true ([] : List Int) true ([] : List T) a.1 a.2.1 a.2.2.1 a.2.2.2.1 a.2.2.2.2.1 a.2.2.2.2.2.1 a.2.2.2.2.2.2.1 a.2.2.2.2.2.2.2.1 a.2.2.2.2.2.2.2.2.1 a.2.2.2.2.2.2.2.2.2.1 a.2.2.2.2.2.2.2.2.2.2.1 a.2.2.2.2.2.2.2.2.2.2.2.1 a.2.2.2.2.2.2.2.2.2.2.2.2.1 a.2.2.2.2.2.2.2.2.2.2.2.2.2.1 a.2.2.2.2.2.2.2.2.2.2.2.2.2.2.1 a.2.2.2.2.2.2.2.2.2.2.2.2.2.2.2.1 a.2.2.2.2.2.2.2.2.2.2.2.2.2.2.2.2.1 0 true ([] : List T) true ([] : List T) 0 0 true ([] : List Int) true ([] : List Int) true ([] : List T) 0 0 0 true ([] : List Int) true ([] : List T) a.2.2.2.2.2.2.2.2.2.2.2.2.2.2.2.2.2.1 a.2.2.2.2.2.2.2.2.2.2.2.2.2.2.2.2.2.2.1 a.2.2.2.2.2.2.2.2.2.2.2.2.2.2.2.2.2.2.2.1 a.2.2.2.2.2.2.2.2.2.2.2.2.2.2.2.2.2.2.2.2) (cond (decide ((wrap64 ((rdI b 0))) = 5)) ((XU.f k c.1 c.2.1 c.2.2.1 c.2.2.2 e f g h i).bind fun a => XB.l0 k d b (wrap64 ((rdI b 0))) 0 0 true ([] : List Int) 0 true ([] : List Int) 0 0 true ([] : List Int) true ([] : List Int) true ([] : List T) 0 0 0 true ([] : List Int) true ([] : List Int) 0 0 true ([] : List Int) true ([] : List Int) true ([] : List T) 0 0 0 true ([] : List Int) true ([] : List Int) 0 0 true ([] : List Int) true ([] : List Int) true ([] : List T) true ([] : List T) a.1 a.2.1 a.2.2.1 true ([] : List T) 0 0 true ([] : List Int) true ([] : List Int) true ([] : List T) 0 0 0 true ([] : List Int) true ([] : List T) a.2.2.2.1 a.2.2.2.2.1 a.2.2.2.2.2.1 a.2.2.2.2.2.2) (cond (decide ((wrap64 ((rdI b 0))) = 6)) ((Xx.f k c.1 c.2.1 c.2.2.1 c.2.2.2 e f g h i).bind fun a => XB.l0 k d b (wrap64 ((rdI b 0))) 0 0 true ([] : List Int) 0 true ([] : List Int) 0 0 true ([] : List Int) true ([] : List Int) true ([] : List T) 0 0 0 true ([] : List Int) true ([] : List Int) 0 0 true ([] : List Int) true ([] : List Int) true ([] : List T) 0 0 0 true ([] : List Int) true ([] : List Int) 0 0 true ([] : List Int) true ([] : List Int) true ([] : List T) true ([] : List T) 0 true ([] : List T) a.1 a.2.1 a.2.2.1 a.2.2.2.1 a.2.2.2.2.1 a.2.2.2.2.2.1 a.2.2.2.2.2.2.1 a.2.2.2.2.2.2.2.1 a.2.2.2.2.2.2.2.2.1 a.2.2.2.2.2.2.2.2.2.1 0 0 0 true ([] : List Int) true ([] : List T) a.2.2.2.2.2.2.2.2.2.2.1 a.2.2.2.2.2.2.2.2.2.2.2.1 a.2.2.2.2.2.2.2.2.2.2.2.2.1 a.2.2.2.2.2.2.2.2.2.2.2.2.2) (cond (decide ((wrap64 ((rdI b 0))) = 7)) ((XV.f k c.1 c.2.1 c.2.2.1 c.2.2.2 e f g h i).bind fun a => XB.l0 k d b (wrap64 ((rdI b 0))) 0 0 true ([] : List Int) 0 true ([] : List Int) 0 0 true ([] : List Int) true ([] : List Int) true ([] : List T) 0 0 0 true ([] : List Int) true ([] : List Int) 0 0 true ([] : List Int) true ([] : List Int) true ([] : List T) 0 0 0 true ([] : List Int) true ([] : List Int) 0 0 true ([] : List Int) true ([] : List Int) true ([] : List T) true ([] : List T) 0 true ([] : List T) true ([] : List T) 0 0 true ([] : List Int) true ([] : List Int) true ([] : List T) a.1 a.2.1 a.2.2.1 a.2.2.2.1 a.2.2.2.2.1 a.2.2.2.2.2.1 a.2.2.2.2.2.2.1 a.2.2.2.2.2.2.2.1 a.2.2.2.2.2.2.2.2.1 a.2.2.2.2.2.2.2.2.2.1 a.2.2.2.2.2.2.2.2.2.2) (XB.l0 k d b (wrap64 ((rdI b 0))) 0 0 true ([] : List Int) 0 true ([] : List Int) 0 0 true ([] : List Int) true ([] : List Int) true ([] : List T) 0 0 0 true ([] : List Int) true ([] : List Int) 0 0 true ([] : List Int) true ([] : List Int) true ([] : List T) 0 0 0 true ([] : List Int) true ([] : List Int) 0 0 true ([] : List Int) true ([] : List Int) true ([] : List T) true ([] : List T) 0 true ([] : List T) true ([] : List T) 0 0 true ([] : List Int) true ([] : List Int) true ([] : List T) 0 0 0 true ([] : List Int) true ([] : List T) c.1 c.2.1 c.2.2.1 8)))))))) (none)))
def XB.enc (r : Int × Int × Int × Bool × (List Int) × Int × Bool × (List Int) × Int × Int × Bool × (List Int) × Bool × (List Int) × Bool × (List T) × Int × Int × Int × Bool × (List Int) × Bool × (List Int) × Int × Int × Bool × (List Int) × Bool × (List Int) × Bool × (List T) × Int × Int × Int × Bool × (List Int) × Bool × (List Int) × Int × Int × Bool × (List Int) × Bool × (List Int) × Bool × (List T) × Bool × (List T) × Int × Bool × (List T) × Bool × (List T) × Int × Int × Bool × (List Int) × Bool × (List Int) × Bool × (List T) × Int × Int × Int × Bool × (List Int) × Bool × (List T) × Int) : Res := ⟨[.vals true (((.int .i64 r.1), true) :: ((.int .i64 r.2.1), true) :: ((.int .i64 r.2.2.1), true) :: ((.nums 5 .u8 r.2.2.2.1 r.2.2.2.2.1), true) :: ((.int .i64 r.2.2.2.2.2.1), true) :: ((.nums 5 .u8 r.2.2.2.2.2.2.1 r.2.2.2.2.2.2.2.1), true) :: ((.int .i64 (e8 r).1), true) :: ((.int .i64 (e8 r).2.1), true) :: ((.nums 5 .u8 (e8 r).2.2.1 (e8 r).2.2.2.1), true) :: ((.nums 5 .u8 (e8 r).2.2.2.2.1 (e8 r).2.2.2.2.2.1), true) :: ((.sl 24 (e8 r).2.2.2.2.2.2.1 (e8 r).2.2.2.2.2.2.2.1), true) :: ((.int .i64 (e8 (e8 r)).1), true) :: ((.int .i64 (e8 (e8 r)).2.1), true) :: ((.int .i64 (e8 (e8 r)).2.2.1), true) :: ((.nums 5 .u8 (e8 (e8 r)).2.2.2.1 (e8 (e8 r)).2.2.2.2.1), true) :: ((.nums 5 .u8 (e8 (e8 r)).2.2.2.2.2.1 (e8 (e8 r)).2.2.2.2.2.2.1), true) :: ((.int .i64 (e8 (e8 r)).2.2.2.2.2.2.2.1), true) :: ((.int .i64 (e8 (e8 (e8 r))).1), true) :: ((.nums 5 .u8 (e8 (e8 (e8 r))).2.1 (e8 (e8 (e8 r))).2.2.1), true) :: ((.nums 5 .u8 (e8 (e8 (e8 r))).2.2.2.1 (e8 (e8 (e8 r))).2.2.2.2.1), true) :: ((.sl 24 (e8 (e8 (e8 r))).2.2.2.2.2.1 (e8 (e8 (e8 r))).2.2.2.2.2.2.1), true) :: ((.int .i64 (e8 (e8 (e8 r))).2.2.2.2.2.2.2.1), true) :: ((.int .i64 (e8 (e8 (e8 (e8 r)))).1), true) :: ((.int .i64 (e8 (e8 (e8 (e8 r)))).2.1), true) :: ((.nums 5 .u8 (e8 (e8 (e8 (e8 r)))).2.2.1 (e8 (e8 (e8 (e8 r)))).2.2.2.1), true) :: ((.nums 5 .u8 (e8 (e8 (e8 (e8 r)))).2.2.2.2.1 (e8 (e8 (e8 (e8 r)))).2.2.2.2.2.1), true) :: ((.int .i64 (e8 (e8 (e8 (e8 r)))).2.2.2.2.2.2.1), true) :: ((.int .i64 (e8 (e8 (e8 (e8 r)))).2.2.2.2.2.2.2.1), true) :: ((.nums 5 .u8 (e8 (e8 (e8 (e8 (e8 r))))).1 (e8 (e8 (e8 (e8 (e8 r))))).2.1), true) :: ((.nums 5 .u8 (e8 (e8 (e8 (e8 (e8 r))))).2.2.1 (e8 (e8 (e8 (e8 (e8 r))))).2.2.2.1), true) :: ((.sl 24 (e8 (e8 (e8 (e8 (e8 r))))).2.2.2.2.1 (e8 (e8 (e8 (e8 (e8 r))))).2.2.2.2.2.1), true) :: ((.sl 24 (e8 (e8 (e8 (e8 (e8 r))))).2.2.2.2.2.2.1 (e8 (e8 (e8 (e8 (e8 r))))).2.2.2.2.2.2.2.1), true) :: ((.int .i64 (e8 (e8 (e8 (e8 (e8 (e8 r)))))).1), true) :: ((.sl 83 (e8 (e8 (e8 (e8 (e8 (e8 r)))))).2.1 (e8 (e8 (e8 (e8 (e8 (e8 r)))))).2.2.1), true) :: ((.sl 54 (e8 (e8 (e8 (e8 (e8 (e8 r)))))).2.2.2.1 (e8 (e8 (e8 (e8 (e8 (e8 r)))))).2.2.2.2.1), true) :: ((.int .i64 (e8 (e8 (e8 (e8 (e8 (e8 r)))))).2.2.2.2.2.1), true) :: ((.int .i64 (e8 (e8 (e8 (e8 (e8 (e8 r)))))).2.2.2.2.2.2.1), true) :: ((.nums 5 .u8 (e8 (e8 (e8 (e8 (e8 (e8 r)))))).2.2.2.2.2.2.2.1 (e8 (e8 (e8 (e8 (e8 (e8 (e8 r))))))).1), true) :: ((.nums 5 .u8 (e8 (e8 (e8 (e8 (e8 (e8 (e8 r))))))).2.1 (e8 (e8 (e8 (e8 (e8 (e8 (e8 r))))))).2.2.1), true) :: ((.sl 24 (e8 (e8 (e8 (e8 (e8 (e8 (e8 r))))))).2.2.2.1 (e8 (e8 (e8 (e8 (e8 (e8 (e8 r))))))).2.2.2.2.1), true) :: ((.int .i64 (e8 (e8 (e8 (e8 (e8 (e8 (e8 r))))))).2.2.2.2.2.1), true) :: ((.int .i64 (e8 (e8 (e8 (e8 (e8 (e8 (e8 r))))))).2.2.2.2.2.2.1), true) :: ((.int .i64 (e8 (e8 (e8 (e8 (e8 (e8 (e8 r))))))).2.2.2.2.2.2.2.1), true) :: ((.nums 5 .u8 (e8 (e8 (e8 (e8 (e8 (e8 (e8 (e8 r)))))))).1 (e8 (e8 (e8 (e8 (e8 (e8 (e8 (e8 r)))))))).2.1), true) :: ((.sl 24 (e8 (e8 (e8 (e8 (e8 (e8 (e8 (e8 r)))))))).2.2.1 (e8 (e8 (e8 (e8 (e8 (e8 (e8 (e8 r)))))))).2.2.2.1), true) :: []), .vals false [((.int .i64 (e8 (e8 (e8 (e8 (e8 (e8 (e8 (e8 r)))))))).2.2.2.2), true)]], []⟩
def XB.ans (k : Nat) : List Arg -> Ans
 | [.v (.agg [(.int .i64 e), (.int .i64 f), (.int .i64 g), (.int .i64 h), (.int .i64 i)]), .v (.nums 5 .u8 d b)] => ⟨XB.f k e f g h i d b, XB.enc⟩
 | _ => Ans.no
def XB.cuts : List (Nat × Keep) := [(63, ⟨[(1, some []), (4, some []), (6, some []), (7, some [])], [(4, [some [], some [], some [], none, some [], none, some [], some [], none, none, none, some [], some [], some [], none, none, some [], some [], none, none, none, some [], some [], some [], none, none, some [], some [], none, none, none, none, some [], none, none, some [], some [], none, none, none, some [], some [], some [], none, none]), (6, [some [], some [], some [], none, some [], none, some [], some [], none, none, none, some [], some [], some [], none, none, some [], some [], none, none, none, some [], some [], some [], none, none, some [], some [], none, none, none, none, some [], none, none, some [], some [], none, none, none, some [], some [], some [], none, none]), (26, [some [], some [], some []])]⟩)]
noncomputable def XB.K0 : List Fr := framesAt [true, true, true, true, true] (bodyOf Tryz.f38 XB.cuts) []
def XB.N0 (g0 : Bool) (l : List Int) (m : Int) (n : Int) (o : Int) (p : Bool) (q : List Int) (s : Int) (t : Bool) (u : List Int) (v : Int) (w : Int) (y : Bool) (z : List Int) (a0 : Bool) (a1 : List Int) (a2 : Bool) (a3 : List T) (a4 : Int) (a5 : Int) (a6 : Int) (a7 : Bool) (a8 : List Int) (a9 : Bool) (b0 : List Int) (b1 : Int) (b2 : Int) (b3 : Bool) (b4 : List Int) (b5 : Bool) (b6 : List Int) (b7 : Bool) (b8 : List T) (b9 : Int) (c0 : Int) (c1 : Int) (c2 : Bool) (c3 : List Int) (c4 : Bool) (c5 : List Int) (c6 : Int) (c7 : Int) (c8 : Bool) (c9 : List Int) (d0 : Bool) (d1 : List Int) (d2 : Bool) (d3 : List T) (d4 : Bool) (d5 : List T) (d6 : Int) (d7 : Bool) (d8 : List T) (d9 : Bool) (e0 : List T) (e1 : Int) (e2 : Int) (e3 : Bool) (e4 : List Int) (e5 : Bool) (e6 : List Int) (e7 : Bool) (e9 : List T) (f0 : Int) (f1 : Int) (f2 : Int) (f3 : Bool) (f4 : List Int) (f5 : Bool) (f6 : List T) (f7 : Bool) (f8 : List Int) (j : Int) (f9 : Int) : St := stOf 107 107 2 [(1, .val ⟨(.nums 5 .u8 g0 l), [], false, none⟩), (4, .bp 4 0), (6, .bp 6 0), (7, .bp 26 0)] [(4, .cells (V.s (.int .i64 0) :: V.s (.int .i64 0) :: V.s (.int .i64 0) :: ⟨(.nums 5 .u8 true ([] : List Int)), [.l 4 4], true, some (.l 4 4)⟩ :: V.s (.int .i64 0) :: ⟨(.nums 5 .u8 true ([] : List Int)), [.l 4 6], true, some (.l 4 6)⟩ :: V.s (.int .i64 0) :: V.s (.int .i64 0) :: ⟨(.nums 5 .u8 true ([] : List Int)), [.l 4 9], true, some (.l 4 9)⟩ :: ⟨(.nums 5 .u8 true ([] : List Int)), [.l 4 10], true, some (.l 4 10)⟩ :: ⟨(.sl 24 true ([] : List T)), [.l 4 11], true, some (.l 4 11)⟩ :: V.s (.int .i64 0) :: V.s (.int .i64 0) :: V.s (.int .i64 0) :: ⟨(.nums 5 .u8 true ([] : List Int)), [.l 4 15], true, some (.l 4 15)⟩ :: ⟨(.nums 5 .u8 true ([] : List Int)), [.l 4 16], true, some (.l 4 16)⟩ :: V.s (.int .i64 0) :: V.s (.int .i64 0) :: ⟨(.nums 5 .u8 true ([] : List Int)), [.l 4 19], true, some (.l 4 19)⟩ :: ⟨(.nums 5 .u8 true ([] : List Int)), [.l 4 20], true, some (.l 4 20)⟩ :: ⟨(.sl 24 true ([] : List T)), [.l 4 21], true, some (.l 4 21)⟩ :: V.s (.int .i64 0) :: V.s (.int .i64 0) :: V.s (.int .i64 0) :: ⟨(.nums 5 .u8 true ([] : List Int)), [.l 4 25], true, some (.l 4 25)⟩ :: ⟨(.nums 5 .u8 true ([] : List Int)), [.l 4 26], true, some (.l 4 26)⟩ :: V.s (.int .i64 0) :: V.s (.int .i64 0) :: ⟨(.nums 5 .u8 true ([] : List Int)), [.l 4 29], true, some (.l 4 29)⟩ :: ⟨(.nums 5 .u8 true ([] : List Int)), [.l 4 30], true, some (.l 4 30)⟩ :: ⟨(.sl 24 true ([] : List T)), [.l 4 31], true, some (.l 4 31)⟩ :: ⟨(.sl 24 true ([] : List T)), [.l 4 32], true, some (.l 4 32)⟩ :: V.s (.int .i64 0) :: ⟨(.sl 83 true ([] : List T)), [.l 4 34], true, some (.l 4 34)⟩ :: ⟨(.sl 54 true ([] : List T)), [.l 4 35], true, some (.l 4 35)⟩ :: V.s (.int .i64 0) :: V.s (.int .i64 0) :: ⟨(.nums 5 .u8 true ([] : List Int)), [.l 4 38], true, some (.l 4 38)⟩ :: ⟨(.nums 5 .u8 true ([] : List Int)), [.l 4 39], true, some (.l 4 39)⟩ :: ⟨(.sl 24 true ([] : List T)), [.l 4 40], true, some (.l 4 40)⟩ :: V.s (.int .i64 0) :: V.s (.int .i64 0) :: V.s (.int .i64 0) :: ⟨(.nums 5 .u8 true ([] : List Int)), [.l 4 44], true, some (.l 4 44)⟩ :: ⟨(.sl 24 true ([] : List T)), [.l 4 45], true, some (.l 4 45)⟩ :: [])), (6, .cells (V.s (.int .i64 m) :: V.s (.int .i64 n) :: V.s (.int .i64 o) :: ⟨(.nums 5 .u8 p q), [.l 6 4], true, some (.l 6 4)⟩ :: V.s (.int .i64 s) :: ⟨(.nums 5 .u8 t u), [.l 6 6], true, some (.l 6 6)⟩ :: V.s (.int .i64 v) :: V.s (.int .i64 w) :: ⟨(.nums 5 .u8 y z), [.l 6 9], true, some (.l 6 9)⟩ :: ⟨(.nums 5 .u8 a0 a1), [.l 6 10], true, some (.l 6 10)⟩ :: ⟨(.sl 24 a2 a3), [.l 6 11], true, some (.l 6 11)⟩ :: V.s (.int .i64 a4) :: V.s (.int .i64 a5) :: V.s (.int .i64 a6) :: ⟨(.nums 5 .u8 a7 a8), [.l 6 15], true, some (.l 6 15)⟩ :: ⟨(.nums 5 .u8 a9 b0), [.l 6 16], true, some (.l 6 16)⟩ :: V.s (.int .i64 b1) :: V.s (.int .i64 b2) :: ⟨(.nums 5 .u8 b3 b4), [.l 6 19], true, some (.l 6 19)⟩ :: ⟨(.nums 5 .u8 b5 b6), [.l 6 20], true, some (.l 6 20)⟩ :: ⟨(.sl 24 b7 b8), [.l 6 21], true, some (.l 6 21)⟩ :: V.s (.int .i64 b9) :: V.s (.int .i64 c0) :: V.s (.int .i64 c1) :: ⟨(.nums 5 .u8 c2 c3), [.l 6 25], true, some (.l 6 25)⟩ :: ⟨(.nums 5 .u8 c4 c5), [.l 6 26], true, some (.l 6 26)⟩ :: V.s (.int .i64 c6) :: V.s (.int .i64 c7) :: ⟨(.nums 5 .u8 c8 c9), [.l 6 29], true, some (.l 6 29)⟩ :: ⟨(.nums 5 .u8 d0 d1), [.l 6 30], true, some (.l 6 30)⟩ :: ⟨(.sl 24 d2 d3), [.l 6 31], true, some (.l 6 31)⟩ :: ⟨(.sl 24 d4 d5), [.l 6 32], true, some (.l 6 32)⟩ :: V.s (.int .i64 d6) :: ⟨(.sl 83 d7 d8), [.l 6 34], true, some (.l 6 34)⟩ :: ⟨(.sl 54 d9 e0), [.l 6 35], true, some (.l 6 35)⟩ :: V.s (.int .i64 e1) :: V.s (.int .i64 e2) :: ⟨(.nums 5 .u8 e3 e4), [.l 6 38], true, some (.l 6 38)⟩ :: ⟨(.nums 5 .u8 e5 e6), [.l 6 39], true, some (.l 6 39)⟩ :: ⟨(.sl 24 e7 e9), [.l 6 40], true, some (.l 6 40)⟩ :: V.s (.int .i64 f0) :: V.s (.int .i64 f1) :: V.s (.int .i64 f2) :: ⟨(.nums 5 .u8 f3 f4), [.l 6 44], true, some (.l 6 44)⟩ :: ⟨(.sl 24 f5 f6), [.l 6 45], true, some (.l 6 45)⟩ :: [])), (26, .cells [⟨(.nums 5 .u8 f7 f8), [], false, none⟩, V.s (.int .i64 j), V.s (.int .i64 f9)])]
set_option maxHeartbeats 0 in
set_option maxRecDepth 100000 in
theorem XB.r (e) (f) (g) (h) (i) (d) (b) (k) : (∀ g0 l m n o p q s t u v w y z a0 a1 a2 a3 a4 a5 a6 a7 a8 a9 b0 b1 b2 b3 b4 b5 b6 b7 b8 b9 c0 c1 c2 c3 c4 c5 c6 c7 c8 c9 d0 d1 d2 d3 d4 d5 d6 d7 d8 d9 e0 e1 e2 e3 e4 e5 e6 e7 e9 f0 f1 f2 f3 f4 f5 f6 f7 f8 j f9, rounds Tryz.prog (tb [Yaq.F, YaG.F, Ybd.F, Xt.F, Xl.F, Yap.F, Xw.F, XU.F, Xx.F, XV.F]) (finish Tryz.prog [] Tryz.f38 [.v (.agg [(.int .i64 e), (.int .i64 f), (.int .i64 g), (.int .i64 h), (.int .i64 i)]), .v (.nums 5 .u8 d b)]) 100000 k XB.K0 (XB.N0 g0 l m n o p q s t u v w y z a0 a1 a2 a3 a4 a5 a6 a7 a8 a9 b0 b1 b2 b3 b4 b5 b6 b7 b8 b9 c0 c1 c2 c3 c4 c5 c6 c7 c8 c9 d0 d1 d2 d3 d4 d5 d6 d7 d8 d9 e0 e1 e2 e3 e4 e5 e6 e7 e9 f0 f1 f2 f3 f4 f5 f6 f7 f8 j f9) = (XB.l0 k g0 l m n o p q s t u v w y z a0 a1 a2 a3 a4 a5 a6 a7 a8 a9 b0 b1 b2 b3 b4 b5 b6 b7 b8 b9 c0 c1 c2 c3 c4 c5 c6 c7 c8 c9 d0 d1 d2 d3 d4 d5 d6 d7 d8 d9 e0 e1 e2 e3 e4 e5 e6 e7 e9 f0 f1 f2 f3 f4 f5 f6 f7 f8 j f9).map XB.enc) := by
 induction k with
 | zero => intros <;> rfl
 | succ k ih =>
  have i0 := ih
  intros <;> simp only [XB.l0.eq_2, mc, mb, ms, mn, <- i0, -eq_self] <;> kernel_rfl
set_option maxHeartbeats 0 in
set_option maxRecDepth 100000 in
def XB.F : Fn := ⟨38, XB.ans, sd XB.ans Tryz.func38 [Yaq.F, YaG.F, Ybd.F, Xt.F, Xl.F, Yap.F, Xw.F, XU.F, Xx.F, XV.F] XB.cuts [] (fun k x => by unfold XB.ans; split; (right; rename_i e f g h i d b; have i0 := XB.r e f g h i d b k; change _ = Option.map XB.enc _; simp only [XB.f.eq_2, mc, mb, ms, mn, <- i0, -eq_self]; kernel_rfl); exact .inl rfl) (fun x => by unfold XB.ans; split <;> rfl)⟩
mutual
def Xf.l0 : Nat -> Bool -> (List Int) -> Bool -> Int -> (List T) -> Int -> Int -> Int -> Int -> Int -> Int -> Option (Bool × (List T) × Int × Int)
 | 0, _, _, _, _, _, _, _, _, _, _, _ => none
 | k + 1, g, f, e, d, c, b, h, i, j, l, m => cond (decide (b < ((f).length : Int))) ((XJ.f k h i j l m g f b).bind fun a => cond (decide (a.1 = 1)) (cond (!e) (Xf.l1 k e d c b) (Xf.l2 k g f e d c b a.1 a.2 h i j l m)) (Xf.l2 k g f e d c b a.1 a.2 h i j l m)) (Xf.l1 k e d c b)
def Xf.l1 : Nat -> Bool -> Int -> (List T) -> Int -> Option (Bool × (List T) × Int × Int)
 | 0, _, _, _, _ => none
 | k + 1, e, d, c, b => cond e (cond (decide (d > 0)) (cond (decide ((c).length + 1 < 189163290800)) (some (false, (c ++ ([(.agg ((.int .i64 1) :: (.int .i64 d) :: (.int .i64 0) :: (.int .i64 0) :: (.int .i64 0) :: (.nums 5 .u8 true ([] : List Int)) :: (.int .i64 0) :: (.nums 5 .u8 true ([] : List Int)) :: (.int .i64 0) :: (.int .i64 0) :: (.nums 5 .u8 true ([] : List Int)) :: (.nums 5 .u8 true ([] : List Int)) :: (.sl 24 true ([] : List T)) :: (.int .i64 0) :: (.int .i64 0) :: (.int .i64 0) :: (.nums 5 .u8 true ([] : List Int)) :: (.nums 5 .u8 true ([] : List Int)) :: (.int .i64 0) :: (.int .i64 0) :: (.nums 5 .u8 true ([] : List Int)) :: (.nums 5 .u8 true ([] : List Int)) :: (.sl 24 true ([] : List T)) :: (.int .i64 0) :: (.int .i64 0) :: (.int .i64 0) :: (.nums 5 .u8 true ([] : List Int)) :: (.nums 5 .u8 true ([] : List Int)) :: (.int .i64 0) :: (.int .i64 0) :: (.nums 5 .u8 true ([] : List Int)) :: (.nums 5 .u8 true ([] : List Int)) :: (.sl 24 true ([] : List T)) :: (.sl 24 true ([] : List T)) :: (.int .i64 0) :: (.sl 83 true ([] : List T)) :: (.sl 54 true ([] : List T)) :: (.int .i64 0) :: (.int .i64 0) :: (.nums 5 .u8 true ([] : List Int)) :: (.nums 5 .u8 true ([] : List Int)) :: (.sl 24 true ([] : List T)) :: (.int .i64 0) :: (.int .i64 0) :: (.int .i64 0) :: (.nums 5 .u8 true ([] : List Int)) :: (.sl 24 true ([] : List T)) :: []))] : List T)), b, d)) (none)) (some (false, c, b, d))) (some (false, c, b, d))
def Xf.l2 : Nat -> Bool -> (List Int) -> Bool -> Int -> (List T) -> Int -> Int -> Int -> Int -> Int -> Int -> Int -> Int -> Option (Bool × (List T) × Int × Int)
 | 0, _, _, _, _, _, _, _, _, _, _, _, _, _ => none
 | k + 1, g, f, e, d, c, b, z, n, h, i, j, l, m => cond (!(decide (z = 3))) (Xf.l0 k g f e (wrap64 (d + 1)) c (wrap64 (b + 1)) h i j l m) (cond (decide (d > 0)) (cond (decide ((c).length + 1 < 189163290800)) (Xf.l3 k g f e 0 (c ++ ([(.agg ((.int .i64 1) :: (.int .i64 d) :: (.int .i64 0) :: (.int .i64 0) :: (.int .i64 0) :: (.nums 5 .u8 true ([] : List Int)) :: (.int .i64 0) :: (.nums 5 .u8 true ([] : List Int)) :: (.int .i64 0) :: (.int .i64 0) :: (.nums 5 .u8 true ([] : List Int)) :: (.nums 5 .u8 true ([] : List Int)) :: (.sl 24 true ([] : List T)) :: (.int .i64 0) :: (.int .i64 0) :: (.int .i64 0) :: (.nums 5 .u8 true ([] : List Int)) :: (.nums 5 .u8 true ([] : List Int)) :: (.int .i64 0) :: (.int .i64 0) :: (.nums 5 .u8 true ([] : List Int)) :: (.nums 5 .u8 true ([] : List Int)) :: (.sl 24 true ([] : List T)) :: (.int .i64 0) :: (.int .i64 0) :: (.int .i64 0) :: (.nums 5 .u8 true ([] : List Int)) :: (.nums 5 .u8 true ([] : List Int)) :: (.int .i64 0) :: (.int .i64 0) :: (.nums 5 .u8 true ([] : List Int)) :: (.nums 5 .u8 true ([] : List Int)) :: (.sl 24 true ([] : List T)) :: (.sl 24 true ([] : List T)) :: (.int .i64 0) :: (.sl 83 true ([] : List T)) :: (.sl 54 true ([] : List T)) :: (.int .i64 0) :: (.int .i64 0) :: (.nums 5 .u8 true ([] : List Int)) :: (.nums 5 .u8 true ([] : List Int)) :: (.sl 24 true ([] : List T)) :: (.int .i64 0) :: (.int .i64 0) :: (.int .i64 0) :: (.nums 5 .u8 true ([] : List Int)) :: (.sl 24 true ([] : List T)) :: []))] : List T)) b n h i j l m) (none)) (Xf.l3 k g f e d c b n h i j l m))
def Xf.l3 : Nat -> Bool -> (List Int) -> Bool -> Int -> (List T) -> Int -> Int -> Int -> Int -> Int -> Int -> Int -> Option (Bool × (List T) × Int × Int)
 | 0, _, _, _, _, _, _, _, _, _, _, _, _ => none
 | k + 1, g, f, e, d, c, b, n, h, i, j, l, m => cond (decide ((0 : Int) <= (wrap64 (b + n)))) (cond (decide ((wrap64 (b + n)) <= ((f).length : Int))) (cond (decide ((0 : Int) <= (wrap64 (b + 8)))) (cond (decide ((wrap64 (b + 8)) <= (wrap64 (b + n)))) ((XB.f k h i j l m g (((f).take ((wrap64 (b + n))).toNat).drop ((wrap64 (b + 8))).toNat)).bind fun a => cond (decide (a.2.2.2.2.2.2.2.2.2.2.2.2.2.2.2.2.2.2.2.2.2.2.2.2.2.2.2.2.2.2.2.2.2.2.2.2.2.2.2.2.2.2.2.2.2.2.2.2.2.2.2.2.2.2.2.2.2.2.2.2.2.2.2.2.2.2.2.2 = 0)) (cond (decide ((c).length + 1 < 189163290800)) (Xf.l0 k g f e d (c ++ ([(.agg ((.int .i64 3) :: (.int .i64 0) :: (.int .i64 a.1) :: (.int .i64 a.2.1) :: (.int .i64 a.2.2.1) :: (.nums 5 .u8 a.2.2.2.1 a.2.2.2.2.1) :: (.int .i64 a.2.2.2.2.2.1) :: (.nums 5 .u8 a.2.2.2.2.2.2.1 a.2.2.2.2.2.2.2.1) :: (.int .i64 a.2.2.2.2.2.2.2.2.1) :: (.int .i64 a.2.2.2.2.2.2.2.2.2.1) :: (.nums 5 .u8 a.2.2.2.2.2.2.2.2.2.2.1 a.2.2.2.2.2.2.2.2.2.2.2.1) :: (.nums 5 .u8 a.2.2.2.2.2.2.2.2.2.2.2.2.1 a.2.2.2.2.2.2.2.2.2.2.2.2.2.1) :: (.sl 24 a.2.2.2.2.2.2.2.2.2.2.2.2.2.2.1 a.2.2.2.2.2.2.2.2.2.2.2.2.2.2.2.1) :: (.int .i64 a.2.2.2.2.2.2.2.2.2.2.2.2.2.2.2.2.1) :: (.int .i64 a.2.2.2.2.2.2.2.2.2.2.2.2.2.2.2.2.2.1) :: (.int .i64 a.2.2.2.2.2.2.2.2.2.2.2.2.2.2.2.2.2.2.1) :: (.nums 5 .u8 a.2.2.2.2.2.2.2.2.2.2.2.2.2.2.2.2.2.2.2.1 a.2.2.2.2.2.2.2.2.2.2.2.2.2.2.2.2.2.2.2.2.1) :: (.nums 5 .u8 a.2.2.2.2.2.2.2.2.2.2.2.2.2.2.2.2.2.2.2.2.2.1 a.2.2.2.2.2.2.2.2.2.2.2.2.2.2.2.2.2.2.2.2.2.2.1) :: (.int .i64 a.2.2.2.2.2.2.2.2.2.2.2.2.2.2.2.2.2.2.2.2.2.2.2.1) :: (.int .i64 a.2.2.2.2.2.2.2.2.2.2.2.2.2.2.2.2.2.2.2.2.2.2.2.2.1) :: (.nums 5 .u8 a.2.2.2.2.2.2.2.2.2.2.2.2.2.2.2.2.2.2.2.2.2.2.2.2.2.1 a.2.2.2.2.2.2.2.2.2.2.2.2.2.2.2.2.2.2.2.2.2.2.2.2.2.2.1) :: (.nums 5 .u8 a.2.2.2.2.2.2.2.2.2.2.2.2.2.2.2.2.2.2.2.2.2.2.2.2.2.2.2.1 a.2.2.2.2.2.2.2.2.2.2.2.2.2.2.2.2.2.2.2.2.2.2.2.2.2.2.2.2.1) :: (.sl 24 a.2.2.2.2.2.2.2.2.2.2.2.2.2.2.2.2.2.2.2.2.2.2.2.2.2.2.2.2.2.1 a.2.2.2.2.2.2.2.2.2.2.2.2.2.2.2.2.2.2.2.2.2.2.2.2.2.2.2.2.2.2.1) :: (.int .i64 a.2.2.2.2.2.2.2.2.2.2.2.2.2.2.2.2.2.2.2.2.2.2.2.2.2.2.2.2.2.2.2.1) :: (.int .i64 a.2.2.2.2.2.2.2.2.2.2.2.2.2.2.2.2.2.2.2.2.2.2.2.2.2.2.2.2.2.2.2.2.1) :: (.int .i64 a.2.2.2.2.2.2.2.2.2.2.2.2.2.2.2.2.2.2.2.2.2.2.2.2.2.2.2.2.2.2.2.2.2.1) :: (.nums 5 .u8 a.2.2.2.2.2.2.2.2.2.2.2.2.2.2.2.2.2.2.2.2.2.2.2.2.2.2.2.2.2.2.2.2.2.2.1 a.2.2.2.2.2.2.2.2.2.2.2.2.2.2.2.2.2.2.2.2.2.2.2.2.2.2.2.2.2.2.2.2.2.2.2.1) :: (.nums 5 .u8 a.2.2.2.2.2.2.2.2.2.2.2.2.2.2.2.2.2.2.2.2.2.2.2.2.2.2.2.2.2.2.2.2.2.2.2.2.1 a.2.2.2.2.2.2.2.2.2.2.2.2.2.2.2.2.2.2.2.2.2.2.2.2.2.2.2.2.2.2.2.2.2.2.2.2.2.1) :: (.int .i64 a.2.2.2.2.2.2.2.2.2.2.2.2.2.2.2.2.2.2.2.2.2.2.2.2.2.2.2.2.2.2.2.2.2.2.2.2.2.2.1) :: (.int .i64 a.2.2.2.2.2.2.2.2.2.2.2.2.2.2.2.2.2.2.2.2.2.2.2.2.2.2.2.2.2.2.2.2.2.2.2.2.2.2.2.1) :: (.nums 5 .u8 a.2.2.2.2.2.2.2.2.2.2.2.2.2.2.2.2.2.2.2.2.2.2.2.2.2.2.2.2.2.2.2.2.2.2.2.2.2.2.2.2.1 a.2.2.2.2.2.2.2.2.2.2.2.2.2.2.2.2.2.2.2.2.2.2.2.2.2.2.2.2.2.2.2.2.2.2.2.2.2.2.2.2.2.1) :: (.nums 5 .u8 a.2.2.2.2.2.2.2.2.2.2.2.2.2.2.2.2.2.2.2.2.2.2.2.2.2.2.2.2.2.2.2.2.2.2.2.2.2.2.2.2.2.2.1 a.2.2.2.2.2.2.2.2.2.2.2.2.2.2.2.2.2.2.2.2.2.2.2.2.2.2.2.2.2.2.2.2.2.2.2.2.2.2.2.2.2.2.2.1) :: (.sl 24 a.2.2.2.2.2.2.2.2.2.2.2.2.2.2.2.2.2.2.2.2.2.2.2.2.2.2.2.2.2.2.2.2.2.2.2.2.2.2.2.2.2.2.2.2.1 a.2.2.2.2.2.2.2.2.2.2.2.2.2.2.2.2.2.2.2.2.2.2.2.2.2.2.2.2.2.2.2.2.2.2.2.2.2.2.2.2.2.2.2.2.2.1) :: (.sl 24 a.2.2.2.2.2.2.2.2.2.2.2.2.2.2.2.2.2.2.2.2.2.2.2.2.2.2.2.2.2.2.2.2.2.2.2.2.2.2.2.2.2.2.2.2.2.2.1 a.2.2.2.2.2.2.2.2.2.2.2.2.2.2.2.2.2.2.2.2.2.2.2.2.2.2.2.2.2.2.2.2.2.2.2.2.2.2.2.2.2.2.2.2.2.2.2.1) :: (.int .i64 a.2.2.2.2.2.2.2.2.2.2.2.2.2.2.2.2.2.2.2.2.2.2.2.2.2.2.2.2.2.2.2.2.2.2.2.2.2.2.2.2.2.2.2.2.2.2.2.2.1) :: (.sl 83 a.2.2.2.2.2.2.2.2.2.2.2.2.2.2.2.2.2.2.2.2.2.2.2.2.2.2.2.2.2.2.2.2.2.2.2.2.2.2.2.2.2.2.2.2.2.2.2.2.2.1 a.2.2.2.2.2.2.2.2.2.2.2.2.2.2.2.2.2.2.2.2.2.2.2.2.2.2.2.2.2.2.2.2.2.2.2.2.2.2.2.2.2.2.2.2.2.2.2.2.2.2.1) :: (.sl 54 a.2.2.2.2.2.2.2.2.2.2.2.2.2.2.2.2.2.2.2.2.2.2.2.2.2.2.2.2.2.2.2.2.2.2.2.2.2.2.2.2.2.2.2.2.2.2.2.2.2.2.2.1 a.2.2.2.2.2.2.2.2.2.2.2.2.2.2.2.2.2.2.2.2.2.2.2.2.2.2.2.2.2.2.2.2.2.2.2.2.2.2.2.2.2.2.2.2.2.2.2.2.2.2.2.2.1) :: (.int .i64 a.2.2.2.2.2.2.2.2.2.2.2.2.2.2.2.2.2.2.2.2.2.2.2.2.2.2.2.2.2.2.2.2.2.2.2.2.2.2.2.2.2.2.2.2.2.2.2.2.2.2.2.2.2.1) :: (.int .i64 a.2.2.2.2.2.2.2.2.2.2.2.2.2.2.2.2.2.2.2.2.2.2.2.2.2.2.2.2.2.2.2.2.2.2.2.2.2.2.2.2.2.2.2.2.2.2.2.2.2.2.2.2.2.2.1) :: (.nums 5 .u8 a.2.2.2.2.2.2.2.2.2.2.2.2.2.2.2.2.2.2.2.2.2.2.2.2.2.2.2.2.2.2.2.2.2.2.2.2.2.2.2.2.2.2.2.2.2.2.2.2.2.2.2.2.2.2.2.1 a.2.2.2.2.2.2.2.2.2.2.2.2.2.2.2.2.2.2.2.2.2.2.2.2.2.2.2.2.2.2.2.2.2.2.2.2.2.2.2.2.2.2.2.2.2.2.2.2.2.2.2.2.2.2.2.2.1) :: (.nums 5 .u8 a.2.2.2.2.2.2.2.2.2.2.2.2.2.2.2.2.2.2.2.2.2.2.2.2.2.2.2.2.2.2.2.2.2.2.2.2.2.2.2.2.2.2.2.2.2.2.2.2.2.2.2.2.2.2.2.2.2.1 a.2.2.2.2.2.2.2.2.2.2.2.2.2.2.2.2.2.2.2.2.2.2.2.2.2.2.2.2.2.2.2.2.2.2.2.2.2.2.2.2.2.2.2.2.2.2.2.2.2.2.2.2.2.2.2.2.2.2.1) :: (.sl 24 a.2.2.2.2.2.2.2.2.2.2.2.2.2.2.2.2.2.2.2.2.2.2.2.2.2.2.2.2.2.2.2.2.2.2.2.2.2.2.2.2.2.2.2.2.2.2.2.2.2.2.2.2.2.2.2.2.2.2.2.1 a.2.2.2.2.2.2.2.2.2.2.2.2.2.2.2.2.2.2.2.2.2.2.2.2.2.2.2.2.2.2.2.2.2.2.2.2.2.2.2.2.2.2.2.2.2.2.2.2.2.2.2.2.2.2.2.2.2.2.2.2.1) :: (.int .i64 a.2.2.2.2.2.2.2.2.2.2.2.2.2.2.2.2.2.2.2.2.2.2.2.2.2.2.2.2.2.2.2.2.2.2.2.2.2.2.2.2.2.2.2.2.2.2.2.2.2.2.2.2.2.2.2.2.2.2.2.2.2.1) :: (.int .i64 a.2.2.2.2.2.2.2.2.2.2.2.2.2.2.2.2.2.2.2.2.2.2.2.2.2.2.2.2.2.2.2.2.2.2.2.2.2.2.2.2.2.2.2.2.2.2.2.2.2.2.2.2.2.2.2.2.2.2.2.2.2.2.1) :: (.int .i64 a.2.2.2.2.2.2.2.2.2.2.2.2.2.2.2.2.2.2.2.2.2.2.2.2.2.2.2.2.2.2.2.2.2.2.2.2.2.2.2.2.2.2.2.2.2.2.2.2.2.2.2.2.2.2.2.2.2.2.2.2.2.2.2.1) :: (.nums 5 .u8 a.2.2.2.2.2.2.2.2.2.2.2.2.2.2.2.2.2.2.2.2.2.2.2.2.2.2.2.2.2.2.2.2.2.2.2.2.2.2.2.2.2.2.2.2.2.2.2.2.2.2.2.2.2.2.2.2.2.2.2.2.2.2.2.2.1 a.2.2.2.2.2.2.2.2.2.2.2.2.2.2.2.2.2.2.2.2.2.2.2.2.2.2.2.2.2.2.2.2.2.2.2.2.2.2.2.2.2.2.2.2.2.2.2.2.2.2.2.2.2.2.2.2.2.2.2.2.2.2.2.2.2.1) :: (.sl 24 a.2.2.2.2.2.2.2.2.2.2.2.2.2.2.2.2.2.2.2.2.2.2.2.2.2.2.2.2.2.2.2.2.2.2.2.2.2.2.2.2.2.2.2.2.2.2.2.2.2.2.2.2.2.2.2.2.2.2.2.2.2.2.2.2.2.2.1 a.2.2.2.2.2.2.2.2.2.2.2.2.2.2.2.2.2.2.2.2.2.2.2.2.2.2.2.2.2.2.2.2.2.2.2.2.2.2.2.2.2.2.2.2.2.2.2.2.2.2.2.2.2.2.2.2.2.2.2.2.2.2.2.2.2.2.2.1) :: []))] : List T)) (wrap64 (b + n)) h i j l m) (none)) (cond (decide ((c).length + 1 < 189163290800)) (Xf.l0 k g f e d (c ++ ([(.agg ((.int .i64 2) :: (.int .i64 a.2.2.2.2.2.2.2.2.2.2.2.2.2.2.2.2.2.2.2.2.2.2.2.2.2.2.2.2.2.2.2.2.2.2.2.2.2.2.2.2.2.2.2.2.2.2.2.2.2.2.2.2.2.2.2.2.2.2.2.2.2.2.2.2.2.2.2.2) :: (.int .i64 0) :: (.int .i64 0) :: (.int .i64 0) :: (.nums 5 .u8 true ([] : List Int)) :: (.int .i64 0) :: (.nums 5 .u8 true ([] : List Int)) :: (.int .i64 0) :: (.int .i64 0) :: (.nums 5 .u8 true ([] : List Int)) :: (.nums 5 .u8 true ([] : List Int)) :: (.sl 24 true ([] : List T)) :: (.int .i64 0) :: (.int .i64 0) :: (.int .i64 0) :: (.nums 5 .u8 true ([] : List Int)) :: (.nums 5 .u8 true ([] : List Int)) :: (.int .i64 0) :: (.int .i64 0) :: (.nums 5 .u8 true ([] : List Int)) :: (.nums 5 .u8 true ([] : List Int)) :: (.sl 24 true ([] : List T)) :: (.int .i64 0) :: (.int .i64 0) :: (.int .i64 0) :: (.nums 5 .u8 true ([] : List Int)) :: (.nums 5 .u8 true ([] : List Int)) :: (.int .i64 0) :: (.int .i64 0) :: (.nums 5 .u8 true ([] : List Int)) :: (.nums 5 .u8 true ([] : List Int)) :: (.sl 24 true ([] : List T)) :: (.sl 24 true ([] : List T)) :: (.int .i64 0) :: (.sl 83 true ([] : List T)) :: (.sl 54 true ([] : List T)) :: (.int .i64 0) :: (.int .i64 0) :: (.nums 5 .u8 true ([] : List Int)) :: (.nums 5 .u8 true ([] : List Int)) :: (.sl 24 true ([] : List T)) :: (.int .i64 0) :: (.int .i64 0) :: (.int .i64 0) :: (.nums 5 .u8 true ([] : List Int)) :: (.sl 24 true ([] : List T)) :: []))] : List T)) (wrap64 (b + n)) h i j l m) (none))) (none)) (none)) (none)) (none)
end
def Xf.f : Nat -> Int -> Int -> Int -> Int -> Int -> Bool -> (List Int) -> Bool -> Int -> Option (Bool × (List T) × Int × Int)
 | 0, _, _, _, _, _, _, _, _, _ => none
 | k + 1, o, p, q, s, t, u, v, w, y => Xf.l0 k u v w y ([] : List T) 0 o p q s t
def Xf.enc (r : Bool × (List T) × Int × Int) : Res := ⟨[.vals false [((.sl 68 r.1 r.2.1), true)], .vals false [((.int .i64 r.2.2.1), true)], .vals false [((.int .i64 r.2.2.2), true)]], []⟩
def Xf.ans (k : Nat) : List Arg -> Ans
 | [.v (.agg [(.int .i64 o), (.int .i64 p), (.int .i64 q), (.int .i64 s), (.int .i64 t)]), .v (.nums 5 .u8 u v), .v (.bool w), .v (.int .i64 y)] => ⟨Xf.f k o p q s t u v w y, Xf.enc⟩
 | _ => Ans.no
def Xf.cuts : List (Nat × Keep) := [(60, ⟨[(1, some []), (2, some []), (3, some []), (4, some []), (11, none), (12, some [])], [(4, [some [], some [], some [], some [], some []])]⟩), (15, ⟨[(2, some []), (3, some []), (11, none), (12, some [])], []⟩), (965, ⟨[(1, some []), (2, some []), (3, some []), (4, some []), (11, none), (12, some []), (13, some []), (14, some [])], [(4, [some [], some [], some [], some [], some []])]⟩), (3863, ⟨[(1, some []), (2, some []), (3, some []), (4, some []), (11, none), (12, some []), (14, some [])], [(4, [some [], some [], some [], some [], some []])]⟩)]
noncomputable def Xf.K0 : List Fr := framesAt [true, true, true, false, false] (bodyOf Tryz.f21 Xf.cuts) []
def Xf.N0 (g : Bool) (f : List Int) (e : Bool) (d : Int) (c : List T) (b : Int) (h : Int) (i : Int) (j : Int) (l : Int) (m : Int) : St := stOf 88 88 4 [(1, .val ⟨(.nums 5 .u8 g f), [], false, none⟩), (2, .val (V.s (.bool e))), (3, vi d), (4, .bp 4 0), (11, .val ⟨(.sl 68 false c), [.l 11 0], true, some (.l 11 0)⟩), (12, vi b)] [(4, .cells [V.s (.int .i64 h), V.s (.int .i64 i), V.s (.int .i64 j), V.s (.int .i64 l), V.s (.int .i64 m)])]
noncomputable def Xf.K1 : List Fr := framesAt [true, true, true] (bodyOf Tryz.f21 Xf.cuts) []
def Xf.N1 (e : Bool) (d : Int) (c : List T) (b : Int) : St := stOf 88 88 4 [(2, .val (V.s (.bool e))), (3, vi d), (11, .val ⟨(.sl 68 false c), [.l 11 0], true, some (.l 11 0)⟩), (12, vi b)] []
noncomputable def Xf.K2 : List Fr := framesAt [true, true, true, false, false, false, true, false, true] (bodyOf Tryz.f21 Xf.cuts) []
def Xf.N2 (g : Bool) (f : List Int) (e : Bool) (d : Int) (c : List T) (b : Int) (z : Int) (n : Int) (h : Int) (i : Int) (j : Int) (l : Int) (m : Int) : St := stOf 88 88 4 [(1, .val ⟨(.nums 5 .u8 g f), [], false, none⟩), (2, .val (V.s (.bool e))), (3, vi d), (4, .bp 4 0), (11, .val ⟨(.sl 68 false c), [.l 11 0], true, some (.l 11 0)⟩), (12, vi b), (13, vi z), (14, vi n)] [(4, .cells [V.s (.int .i64 h), V.s (.int .i64 i), V.s (.int .i64 j), V.s (.int .i64 l), V.s (.int .i64 m)])]
noncomputable def Xf.K3 : List Fr := framesAt [true, true, true, false, false, false, true, false, true, true, true] (bodyOf Tryz.f21 Xf.cuts) []
def Xf.N3 (g : Bool) (f : List Int) (e : Bool) (d : Int) (c : List T) (b : Int) (n : Int) (h : Int) (i : Int) (j : Int) (l : Int) (m : Int) : St := stOf 88 88 4 [(1, .val ⟨(.nums 5 .u8 g f), [], false, none⟩), (2, .val (V.s (.bool e))), (3, vi d), (4, .bp 4 0), (11, .val ⟨(.sl 68 false c), [.l 11 0], true, some (.l 11 0)⟩), (12, vi b), (14, vi n)] [(4, .cells [V.s (.int .i64 h), V.s (.int .i64 i), V.s (.int .i64 j), V.s (.int .i64 l), V.s (.int .i64 m)])]
set_option maxHeartbeats 0 in
set_option maxRecDepth 100000 in
theorem Xf.r (o) (p) (q) (s) (t) (u) (v) (w) (y) (k) : (∀ g f e d c b h i j l m, rounds Tryz.prog (tb [XJ.F, XB.F]) (finish Tryz.prog [] Tryz.f21 [.v (.agg [(.int .i64 o), (.int .i64 p), (.int .i64 q), (.int .i64 s), (.int .i64 t)]), .v (.nums 5 .u8 u v), .v (.bool w), .v (.int .i64 y)]) 100000 k Xf.K0 (Xf.N0 g f e d c b h i j l m) = (Xf.l0 k g f e d c b h i j l m).map Xf.enc) /\ (∀ e d c b, rounds Tryz.prog (tb [XJ.F, XB.F]) (finish Tryz.prog [] Tryz.f21 [.v (.agg [(.int .i64 o), (.int .i64 p), (.int .i64 q), (.int .i64 s), (.int .i64 t)]), .v (.nums 5 .u8 u v), .v (.bool w), .v (.int .i64 y)]) 100000 k Xf.K1 (Xf.N1 e d c b) = (Xf.l1 k e d c b).map Xf.enc) /\ (∀ g f e d c b z n h i j l m, rounds Tryz.prog (tb [XJ.F, XB.F]) (finish Tryz.prog [] Tryz.f21 [.v (.agg [(.int .i64 o), (.int .i64 p), (.int .i64 q), (.int .i64 s), (.int .i64 t)]), .v (.nums 5 .u8 u v), .v (.bool w), .v (.int .i64 y)]) 100000 k Xf.K2 (Xf.N2 g f e d c b z n h i j l m) = (Xf.l2 k g f e d c b z n h i j l m).map Xf.enc) /\ (∀ g f e d c b n h i j l m, rounds Tryz.prog (tb [XJ.F, XB.F]) (finish Tryz.prog [] Tryz.f21 [.v (.agg [(.int .i64 o), (.int .i64 p), (.int .i64 q), (.int .i64 s), (.int .i64 t)]), .v (.nums 5 .u8 u v), .v (.bool w), .v (.int .i64 y)]) 100000 k Xf.K3 (Xf.N3 g f e d c b n h i j l m) = (Xf.l3 k g f e d c b n h i j l m).map Xf.enc) := by
 induction k with
 | zero => and_intros <;> intros <;> rfl
 | succ k ih =>
  have ⟨i0, i1, i2, i3⟩ := ih
  and_intros <;> intros <;> simp only [Xf.l0.eq_2, Xf.l1.eq_2, Xf.l2.eq_2, Xf.l3.eq_2, mc, mb, ms, mn, <- i0, <- i1, <- i2, <- i3, -eq_self] <;> kernel_rfl
set_option maxHeartbeats 0 in
set_option maxRecDepth 100000 in
def Xf.F : Fn := ⟨21, Xf.ans, sd Xf.ans Tryz.func21 [XJ.F, XB.F] Xf.cuts [] (fun k x => by unfold Xf.ans; split; (right; rename_i o p q s t u v w y; have ⟨i0, i1, i2, i3⟩ := Xf.r o p q s t u v w y k; change _ = Option.map Xf.enc _; simp only [Xf.f.eq_2, mc, mb, ms, mn, <- i0, <- i1, <- i2, <- i3, -eq_self]; kernel_rfl); exact .inl rfl) (fun x => by unfold Xf.ans; split <;> rfl)⟩
def YbW.f : Nat -> Int -> Int -> Int -> Int -> Int -> Int -> Bool -> (List Int) -> Option (Bool × List T)
 | 0, _, _, _, _, _, _, _, _ => none
 | k + 1, a, b, c, d, e, f, g, h => (YbV.f k a b c d e f g h).bind fun j => cond (!j) (some (true, ([] : List T))) ((Xf.f k a b c d e g h true f).bind fun i => some (i.1, i.2.1))
def YbW.enc (r : Bool × List T) : Res := ⟨[.vals false [((.sl 68 r.1 r.2), true)]], []⟩
def YbW.ans (k : Nat) : List Arg -> Ans
 | [.v (.agg [(.int .i64 a), (.int .i64 b), (.int .i64 c), (.int .i64 d), (.int .i64 e)]), .v (.agg [(.int .i64 f), (.nums 5 .u8 g h)])] => ⟨YbW.f k a b c d e f g h, YbW.enc⟩
 | _ => Ans.no
def YbW.F : Fn := ⟨15, YbW.ans, sd YbW.ans Tryz.func15 [YbV.F, Xf.F] [] [] (fun k x => by unfold YbW.ans; split; (right; change _ = Option.map YbW.enc _; simp only [YbW.f.eq_2, mc, mb, ms, mn, -eq_self]; kernel_rfl); exact .inl rfl) (fun x => by unfold YbW.ans; split <;> rfl)⟩
def Xi.f : Nat -> Int -> Int -> Int -> Option Bool
 | 0, _, _, _ => none
 | k + 1, a, b, c => cond (decide (b <= a)) (some (decide (a <= c))) (some false)
def Xi.enc (r : Bool) : Res := ⟨[.vals false [((.bool r), true)]], []⟩
def Xi.ans (k : Nat) : List Arg -> Ans
 | [.v (.int .i64 a), .v (.int .i64 b), .v (.int .i64 c)] => ⟨Xi.f k a b c, Xi.enc⟩
 | _ => Ans.no
def Xi.F : Fn := ⟨39, Xi.ans, sd Xi.ans Tryz.func39 [] [] [] (fun k x => by unfold Xi.ans; split; (right; change _ = Option.map Xi.enc _; simp only [Xi.f.eq_2, mc, mb, ms, mn, -eq_self]; kernel_rfl); exact .inl rfl) (fun x => by unfold Xi.ans; split <;> rfl)⟩
def XE.f : Nat -> Int -> Int -> Int -> Int -> Int -> Option Bool
 | 0, _, _, _, _, _ => none
 | k + 1, a, b, c, d, e => (Xi.f k a 1 10).bind fun f => cond f ((Xi.f k b 0 40).bind fun g => cond g ((Xi.f k c 0 8).bind fun h => cond h ((Xi.f k d 1 4000).bind fun i => cond i ((Xi.f k e 3 5).bind fun j => some j) (some false)) (some false)) (some false)) (some false)
def XE.enc (r : Bool) : Res := ⟨[.vals false [((.bool r), true)]], []⟩
def XE.ans (k : Nat) : List Arg -> Ans
 | [.v (.agg [(.int .i64 a), (.int .i64 b), (.int .i64 c), (.int .i64 d), (.int .i64 e)])] => ⟨XE.f k a b c d e, XE.enc⟩
 | _ => Ans.no
def XE.F : Fn := ⟨22, XE.ans, sd XE.ans Tryz.func22 [Xi.F] [] [] (fun k x => by unfold XE.ans; split; (right; change _ = Option.map XE.enc _; simp only [XE.f.eq_2, mc, mb, ms, mn, -eq_self]; kernel_rfl); exact .inl rfl) (fun x => by unfold XE.ans; split <;> rfl)⟩
def Yat.f : Nat -> Bool -> (List Int) -> Option (Bool × List Int)
 | 0, _, _ => none
 | k + 1, b, a => cond (decide (0 + (a).length < 140737488355328)) (some (((a).isEmpty && false), a)) (none)
def Yat.enc (r : Bool × List Int) : Res := ⟨[.vals false [((.nums 5 .u8 r.1 r.2), true)]], []⟩
def Yat.ans (k : Nat) : List Arg -> Ans
 | [.v (.nums 5 .u8 b a)] => ⟨Yat.f k b a, Yat.enc⟩
 | _ => Ans.no
def Yat.F : Fn := ⟨59, Yat.ans, sd Yat.ans Tryz.func59 [] [] [] (fun k x => by unfold Yat.ans; split; (right; change _ = Option.map Yat.enc _; simp only [Yat.f.eq_2, mc, mb, ms, mn, -eq_self]; kernel_rfl); exact .inl rfl) (fun x => by unfold Yat.ans; split <;> rfl)⟩
def Yas.f : Nat -> Bool -> (List Int) -> Int -> Int -> Option (Bool × (List Int) × Int × Int)
 | 0, _, _, _, _ => none
 | k + 1, d, c, a, b => (Xi.f k a 0 ((c).length : Int)).bind fun f => cond (!f) (some (true, ([] : List Int), 0, 1)) ((Xi.f k b 0 (wrap64 (((c).length : Int) - a))).bind fun g => cond (!g) (some (true, ([] : List Int), 0, 1)) (cond (decide ((0 : Int) <= (wrap64 (a + b)))) (cond (decide ((wrap64 (a + b)) <= ((c).length : Int))) (cond (decide ((0 : Int) <= a)) (cond (decide (a <= (wrap64 (a + b)))) ((Yat.f k d (((c).take ((wrap64 (a + b))).toNat).drop (a).toNat)).bind fun e => some (e.1, e.2, (wrap64 (a + b)), 0)) (none)) (none)) (none)) (none)))
def Yas.enc (r : Bool × (List Int) × Int × Int) : Res := ⟨[.vals false [((.nums 5 .u8 r.1 r.2.1), true)], .vals false [((.int .i64 r.2.2.1), true)], .vals false [((.int .i64 r.2.2.2), true)]], []⟩
def Yas.ans (k : Nat) : List Arg -> Ans
 | [.v (.nums 5 .u8 d c), .v (.int .i64 a), .v (.int .i64 b)] => ⟨Yas.f k d c a b, Yas.enc⟩
 | _ => Ans.no
def Yas.F : Fn := ⟨86, Yas.ans, sd Yas.ans Tryz.func86 [Xi.F, Yat.F] [] [] (fun k x => by unfold Yas.ans; split; (right; change _ = Option.map Yas.enc _; simp only [Yas.f.eq_2, mc, mb, ms, mn, -eq_self]; kernel_rfl); exact .inl rfl) (fun x => by unfold Yas.ans; split <;> rfl)⟩
def XQ.l0 : Nat -> Int -> Int -> Int -> Bool -> (List Int) -> Int -> Int -> Option (Int × Int × Int)
 | 0, _, _, _, _, _, _, _ => none
 | k + 1, d, e, f, l, b, g, a => cond (decide (a < g)) (cond (decide ((0 : Int) <= a)) (cond (decide (a < ((b).length : Int))) (cond (decide ((0 : Int) <= (wrap64 ((8 : Int) * a)))) (XQ.l0 k d e (Go.bits .or .i64 f (shlI .i64 (wrap64 ((rdI b a))) (wrap64 ((8 : Int) * a)))) l b g (wrap64 (a + 1))) (none)) (none)) (none)) (some (f, d, e))
def XQ.f : Nat -> Bool -> (List Int) -> Int -> Int -> Option (Int × Int × Int)
 | 0, _, _, _, _ => none
 | k + 1, h, i, j, c => (Xi.f k c 1 7).bind fun n => cond (!n) (some (0, 0, 5)) ((Yas.f k h i j c).bind fun m => XQ.l0 k m.2.2.1 m.2.2.2 0 m.1 m.2.1 ((m.2.1).length : Int) 0)
def XQ.enc (r : Int × Int × Int) : Res := ⟨[.vals false [((.int .i64 r.1), true)], .vals false [((.int .i64 r.2.1), true)], .vals false [((.int .i64 r.2.2), true)]], []⟩
def XQ.ans (k : Nat) : List Arg -> Ans
 | [.v (.nums 5 .u8 h i), .v (.int .i64 j), .v (.int .i64 c)] => ⟨XQ.f k h i j c, XQ.enc⟩
 | _ => Ans.no
def XQ.cuts : List (Nat × Keep) := [(250, ⟨[(10, some []), (11, some []), (12, some []), (26, none), (27, some []), (28, some [])], []⟩)]
noncomputable def XQ.K0 : List Fr := framesAt [true, true, true, true, false, true, false] (bodyOf Tryz.f57 XQ.cuts) []
def XQ.N0 (d : Int) (e : Int) (f : Int) (l : Bool) (b : List Int) (g : Int) (a : Int) : St := stOf 44 44 3 [(10, vi d), (11, vi e), (12, vi f), (26, .val ⟨(.nums 5 .u8 l b), [.l 26 0], true, some (.l 26 0)⟩), (27, vi g), (28, vi a)] []
theorem XQ.r (h) (i) (j) (c) (k) : (∀ d e f l b g a, rounds Tryz.prog (tb [Xi.F, Yas.F]) (finish Tryz.prog [] Tryz.f57 [.v (.nums 5 .u8 h i), .v (.int .i64 j), .v (.int .i64 c)]) 100000 k XQ.K0 (XQ.N0 d e f l b g a) = (XQ.l0 k d e f l b g a).map XQ.enc) := by
 induction k with
 | zero => intros <;> rfl
 | succ k ih =>
  have i0 := ih
  intros <;> simp only [XQ.l0.eq_2, mc, mb, ms, mn, <- i0, -eq_self] <;> kernel_rfl
def XQ.F : Fn := ⟨57, XQ.ans, sd XQ.ans Tryz.func57 [Xi.F, Yas.F] XQ.cuts [] (fun k x => by unfold XQ.ans; split; (right; rename_i h i j c; have i0 := XQ.r h i j c k; change _ = Option.map XQ.enc _; simp only [XQ.f.eq_2, mc, mb, ms, mn, <- i0, -eq_self]; kernel_rfl); exact .inl rfl) (fun x => by unfold XQ.ans; split <;> rfl)⟩
def Yau.f : Nat -> Int -> Option Bool
 | 0, _ => none
 | k + 1, a => (Xi.f k a 0 4294967295).bind fun b => some b
def Yau.enc (r : Bool) : Res := ⟨[.vals false [((.bool r), true)]], []⟩
def Yau.ans (k : Nat) : List Arg -> Ans
 | [.v (.int .i64 a)] => ⟨Yau.f k a, Yau.enc⟩
 | _ => Ans.no
def Yau.F : Fn := ⟨119, Yau.ans, sd Yau.ans Tryz.func119 [Xi.F] [] [] (fun k x => by unfold Yau.ans; split; (right; change _ = Option.map Yau.enc _; simp only [Yau.f.eq_2, mc, mb, ms, mn, -eq_self]; kernel_rfl); exact .inl rfl) (fun x => by unfold Yau.ans; split <;> rfl)⟩
def XR.l0 : Nat -> Int -> Int -> Option Int
 | 0, _, _ => none
 | k + 1, a, b => cond (decide (b < 8)) (cond (decide ((Go.bits .and .i64 a 1) = 1)) (XR.l0 k (Go.bits .xor .i64 (shrI .i64 a 1) 3988292384) (wrap64 (b + 1))) (XR.l0 k (shrI .i64 a 1) (wrap64 (b + 1)))) (some a)
def XR.f : Nat -> Int -> Option Int
 | 0, _ => none
 | k + 1, c => XR.l0 k c 0
def XR.enc (r : Int) : Res := ⟨[.vals false [((.int .i64 r), true)]], []⟩
def XR.ans (k : Nat) : List Arg -> Ans
 | [.v (.int .i64 c)] => ⟨XR.f k c, XR.enc⟩
 | _ => Ans.no
def XR.cuts : List (Nat × Keep) := [(26, ⟨[(0, some []), (4, some [])], []⟩)]
noncomputable def XR.K0 : List Fr := framesAt [true, false, true, false] (bodyOf Tryz.f120 XR.cuts) []
def XR.N0 (a : Int) (b : Int) : St := stOf 16 16 1 [(0, vi a), (4, vi b)] []
theorem XR.r (c) (k) : (∀ a b, rounds Tryz.prog (tb []) (finish Tryz.prog [] Tryz.f120 [.v (.int .i64 c)]) 100000 k XR.K0 (XR.N0 a b) = (XR.l0 k a b).map XR.enc) := by
 induction k with
 | zero => intros <;> rfl
 | succ k ih =>
  have i0 := ih
  intros <;> simp only [XR.l0.eq_2, mc, mb, ms, mn, <- i0, -eq_self] <;> kernel_rfl
def XR.F : Fn := ⟨120, XR.ans, sd XR.ans Tryz.func120 [] XR.cuts [] (fun k x => by unfold XR.ans; split; (right; rename_i c; have i0 := XR.r c k; change _ = Option.map XR.enc _; simp only [XR.f.eq_2, mc, mb, ms, mn, <- i0, -eq_self]; kernel_rfl); exact .inl rfl) (fun x => by unfold XR.ans; split <;> rfl)⟩
def Yab.l0 : Nat -> Int -> Bool -> (List Int) -> Int -> Int -> Option Int
 | 0, _, _, _, _, _ => none
 | k + 1, e, h, b, f, a => cond (decide (a < f)) (cond (decide ((0 : Int) <= a)) (cond (decide (a < ((b).length : Int))) ((XR.f k (Go.bits .xor .i64 e (wrap64 ((rdI b a))))).bind fun i => Yab.l0 k i h b f (wrap64 (a + 1))) (none)) (none)) (some (Go.bits .xor .i64 e 4294967295))
def Yab.f : Nat -> Int -> Bool -> (List Int) -> Option Int
 | 0, _, _, _ => none
 | k + 1, c, g, d => (Yau.f k c).bind fun i => cond (!i) (some 0) (Yab.l0 k (Go.bits .xor .i64 c 4294967295) g d ((d).length : Int) 0)
def Yab.enc (r : Int) : Res := ⟨[.vals false [((.int .i64 r), true)]], []⟩
def Yab.ans (k : Nat) : List Arg -> Ans
 | [.v (.int .i64 c), .v (.nums 5 .u8 g d)] => ⟨Yab.f k c g d, Yab.enc⟩
 | _ => Ans.no
def Yab.cuts : List (Nat × Keep) := [(122, ⟨[(0, some []), (12, some []), (13, some []), (14, some [])], []⟩)]
noncomputable def Yab.K0 : List Fr := framesAt [true, true, true, false, true, false] (bodyOf Tryz.f87 Yab.cuts) []
def Yab.N0 (e : Int) (h : Bool) (b : List Int) (f : Int) (a : Int) : St := stOf 26 26 2 [(0, vi e), (12, .val ⟨(.nums 5 .u8 h b), [], false, none⟩), (13, vi f), (14, vi a)] []
theorem Yab.r (c) (g) (d) (k) : (∀ e h b f a, rounds Tryz.prog (tb [Yau.F, XR.F]) (finish Tryz.prog [] Tryz.f87 [.v (.int .i64 c), .v (.nums 5 .u8 g d)]) 100000 k Yab.K0 (Yab.N0 e h b f a) = (Yab.l0 k e h b f a).map Yab.enc) := by
 induction k with
 | zero => intros <;> rfl
 | succ k ih =>
  have i0 := ih
  intros <;> simp only [Yab.l0.eq_2, mc, mb, ms, mn, <- i0, -eq_self] <;> kernel_rfl
def Yab.F : Fn := ⟨87, Yab.ans, sd Yab.ans Tryz.func87 [Yau.F, XR.F] Yab.cuts [] (fun k x => by unfold Yab.ans; split; (right; rename_i c g d; have i0 := Yab.r c g d k; change _ = Option.map Yab.enc _; simp only [Yab.f.eq_2, mc, mb, ms, mn, <- i0, -eq_self]; kernel_rfl); exact .inl rfl) (fun x => by unfold Yab.ans; split <;> rfl)⟩
def Ybk.f : Nat -> Bool -> (List Int) -> Option Int
 | 0, _, _ => none
 | k + 1, a, b => (Yab.f k 0 a b).bind fun c => some c
def Ybk.enc (r : Int) : Res := ⟨[.vals false [((.int .i64 r), true)]], []⟩
def Ybk.ans (k : Nat) : List Arg -> Ans
 | [.v (.nums 5 .u8 a b)] => ⟨Ybk.f k a b, Ybk.enc⟩
 | _ => Ans.no
def Ybk.F : Fn := ⟨58, Ybk.ans, sd Ybk.ans Tryz.func58 [Yab.F] [] [] (fun k x => by unfold Ybk.ans; split; (right; change _ = Option.map Ybk.enc _; simp only [Ybk.f.eq_2, mc, mb, ms, mn, -eq_self]; kernel_rfl); exact .inl rfl) (fun x => by unfold Ybk.ans; split <;> rfl)⟩
def XH.l0 : Nat -> Bool -> (List Int) -> Int -> Int -> Int -> Int -> Int -> Int -> Option (Int × Int)
 | 0, _, _, _, _, _, _, _, _ => none
 | k + 1, l, d, a, o, p, q, n, s => cond (decide ((wrap64 (((d).length : Int) - a)) < 4)) (some (1, 0)) ((XQ.f k l d (wrap64 (a + 2)) 2).bind fun e => (Xi.f k e.1 1 n).bind fun t => cond (!t) (some (0, 0)) (cond (decide ((wrap64 (((d).length : Int) - a)) < (wrap64 ((8 : Int) + e.1)))) (some (1, (wrap64 ((8 : Int) + e.1)))) ((XQ.f k l d (wrap64 (a + 4)) 4).bind fun u => cond (decide ((0 : Int) <= (wrap64 ((wrap64 (a + 8)) + e.1)))) (cond (decide ((wrap64 ((wrap64 (a + 8)) + e.1)) <= ((d).length : Int))) (cond (decide ((0 : Int) <= (wrap64 (a + 8)))) (cond (decide ((wrap64 (a + 8)) <= (wrap64 ((wrap64 (a + 8)) + e.1)))) ((Ybk.f k l (((d).take ((wrap64 ((wrap64 (a + 8)) + e.1))).toNat).drop ((wrap64 (a + 8))).toNat)).bind fun v => cond (!(decide (u.1 = v))) (some (2, (wrap64 ((8 : Int) + e.1)))) (some (3, (wrap64 ((8 : Int) + e.1))))) (none)) (none)) (none)) (none))))
def XH.f : Nat -> Int -> Int -> Int -> Int -> Int -> Bool -> (List Int) -> Int -> Option (Int × Int)
 | 0, _, _, _, _, _, _, _, _ => none
 | k + 1, f, g, h, i, j, m, c, b => (XE.f k f g h i j).bind fun e => cond (!e) (some (0, 0)) ((Xi.f k b 0 (wrap64 (((c).length : Int) - 1))).bind fun t => cond (!t) (some (0, 0)) (cond (decide ((0 : Int) <= b)) (cond (decide (b < ((c).length : Int))) (cond (!(decide ((rdI c b) = 181))) (some (0, 0)) (cond (decide ((wrap64 (((c).length : Int) - b)) > 1)) (cond (decide ((0 : Int) <= (wrap64 (b + 1)))) (cond (decide ((wrap64 (b + 1)) < ((c).length : Int))) (cond (!(decide ((rdI c (wrap64 (b + 1))) = 70))) (some (0, 0)) (XH.l0 k m c b f g h i j)) (none)) (none)) (XH.l0 k m c b f g h i j))) (none)) (none)))
def XH.enc (r : Int × Int) : Res := ⟨[.vals false [((.int .i64 r.1), true)], .vals false [((.int .i64 r.2), true)]], []⟩
def XH.ans (k : Nat) : List Arg -> Ans
 | [.v (.agg [(.int .i64 f), (.int .i64 g), (.int .i64 h), (.int .i64 i), (.int .i64 j)]), .v (.nums 5 .u8 m c), .v (.int .i64 b)] => ⟨XH.f k f g h i j m c b, XH.enc⟩
 | _ => Ans.no
def XH.cuts : List (Nat × Keep) := [(3, ⟨[(1, some []), (2, some []), (3, some [])], [(3, [some [], some [], some [], some [], some []])]⟩)]
noncomputable def XH.K0 : List Fr := framesAt [true] (bodyOf Tryz.f40 XH.cuts) []
def XH.N0 (l : Bool) (d : List Int) (a : Int) (o : Int) (p : Int) (q : Int) (n : Int) (s : Int) : St := stOf 98 98 3 [(1, .val ⟨(.nums 5 .u8 l d), [], false, none⟩), (2, vi a), (3, .bp 3 0)] [(3, .cells [V.s (.int .i64 o), V.s (.int .i64 p), V.s (.int .i64 q), V.s (.int .i64 n), V.s (.int .i64 s)])]
theorem XH.r (f) (g) (h) (i) (j) (m) (c) (b) (k) : (∀ l d a o p q n s, rounds Tryz.prog (tb [XE.F, Xi.F, XQ.F, Ybk.F]) (finish Tryz.prog [] Tryz.f40 [.v (.agg [(.int .i64 f), (.int .i64 g), (.int .i64 h), (.int .i64 i), (.int .i64 j)]), .v (.nums 5 .u8 m c), .v (.int .i64 b)]) 100000 k XH.K0 (XH.N0 l d a o p q n s) = (XH.l0 k l d a o p q n s).map XH.enc) := by
 induction k with
 | zero => intros <;> rfl
 | succ k ih =>
  have i0 := ih
  intros <;> simp only [XH.l0.eq_2, mc, mb, ms, mn, <- i0, -eq_self] <;> kernel_rfl
def XH.F : Fn := ⟨40, XH.ans, sd XH.ans Tryz.func40 [XE.F, Xi.F, XQ.F, Ybk.F] XH.cuts [] (fun k x => by unfold XH.ans; split; (right; rename_i f g h i j m c b; have i0 := XH.r f g h i j m c b k; change _ = Option.map XH.enc _; simp only [XH.f.eq_2, mc, mb, ms, mn, <- i0, -eq_self]; kernel_rfl); exact .inl rfl) (fun x => by unfold XH.ans; split <;> rfl)⟩
def YaS.f : Nat -> Int -> Option Bool
 | 0, _ => none
 | k + 1, a => (Xi.f k a 0 1152921504606846975).bind fun b => some b
def YaS.enc (r : Bool) : Res := ⟨[.vals false [((.bool r), true)]], []⟩
def YaS.ans (k : Nat) : List Arg -> Ans
 | [.v (.int .i64 a)] => ⟨YaS.f k a, YaS.enc⟩
 | _ => Ans.no
def YaS.F : Fn := ⟨45, YaS.ans, sd YaS.ans Tryz.func45 [Xi.F] [] [] (fun k x => by unfold YaS.ans; split; (right; change _ = Option.map YaS.enc _; simp only [YaS.f.eq_2, mc, mb, ms, mn, -eq_self]; kernel_rfl); exact .inl rfl) (fun x => by unfold YaS.ans; split <;> rfl)⟩
def YbX.f : Nat -> Int -> Int -> Int -> Int -> Int -> Int -> Bool -> (List Int) -> Option Bool
 | 0, _, _, _, _, _, _, _, _ => none
 | k + 1, a, b, c, d, e, g, h, f => (XH.f k a b c d e h f 0).bind fun i => (XE.f k a b c d e).bind fun j => cond j ((YaS.f k g).bind fun l => cond l (cond (decide (((f).length : Int) = 0)) (some true) (some (decide (i.1 = 1)))) (some false)) (some false)
def YbX.enc (r : Bool) : Res := ⟨[.vals false [((.bool r), true)]], []⟩
def YbX.ans (k : Nat) : List Arg -> Ans
 | [.v (.agg [(.int .i64 a), (.int .i64 b), (.int .i64 c), (.int .i64 d), (.int .i64 e)]), .v (.agg [(.int .i64 g), (.nums 5 .u8 h f)])] => ⟨YbX.f k a b c d e g h f, YbX.enc⟩
 | _ => Ans.no
def YbX.F : Fn := ⟨34, YbX.ans, sd YbX.ans Tryz.func34 [XH.F, XE.F, YaS.F] [] [] (fun k x => by unfold YbX.ans; split; (right; change _ = Option.map YbX.enc _; simp only [YbX.f.eq_2, mc, mb, ms, mn, -eq_self]; kernel_rfl); exact .inl rfl) (fun x => by unfold YbX.ans; split <;> rfl)⟩
def YaH.f : Nat -> Int -> Int -> Int -> Int -> Int -> Bool -> (List Int) -> Int -> Option (Bool × (List Int) × Bool)
 | 0, _, _, _, _, _, _, _, _ => none
 | k + 1, e, f, g, h, i, d, b, a => (XH.f k e f g h i d b a).bind fun c => cond (!(decide (c.1 = 3))) (some (true, ([] : List Int), false)) (cond (decide ((0 : Int) <= (wrap64 (a + c.2)))) (cond (decide ((wrap64 (a + c.2)) <= ((b).length : Int))) (cond (decide ((0 : Int) <= (wrap64 (a + 8)))) (cond (decide ((wrap64 (a + 8)) <= (wrap64 (a + c.2)))) ((Yat.f k d (((b).take ((wrap64 (a + c.2))).toNat).drop ((wrap64 (a + 8))).toNat)).bind fun j => some (j.1, j.2, true)) (none)) (none)) (none)) (none))
def YaH.enc (r : Bool × (List Int) × Bool) : Res := ⟨[.vals false [((.nums 5 .u8 r.1 r.2.1), true)], .vals false [((.bool r.2.2), true)]], []⟩
def YaH.ans (k : Nat) : List Arg -> Ans
 | [.v (.agg [(.int .i64 e), (.int .i64 f), (.int .i64 g), (.int .i64 h), (.int .i64 i)]), .v (.nums 5 .u8 d b), .v (.int .i64 a)] => ⟨YaH.f k e f g h i d b a, YaH.enc⟩
 | _ => Ans.no
def YaH.F : Fn := ⟨41, YaH.ans, sd YaH.ans Tryz.func41 [XH.F, Yat.F] [] [] (fun k x => by unfold YaH.ans; split; (right; change _ = Option.map YaH.enc _; simp only [YaH.f.eq_2, mc, mb, ms, mn, -eq_self]; kernel_rfl); exact .inl rfl) (fun x => by unfold YaH.ans; split <;> rfl)⟩
def YbC.f : Nat -> Int -> Bool -> (List T) -> Option ByteArray
 | 0, _, _, _ => none
 | k + 1, a, c, b => (Xi.f k a 0 (wrap64 (((b).length : Int) - 1))).bind fun d => cond (!d) (some (⟨#[]⟩ : ByteArray)) (cond (decide ((0 : Int) <= a)) (cond (decide (a < ((b).length : Int))) (some (((((b).getD (a).toNat .bad).cells.getD 0 .bad)).toStr)) (none)) (none))
def YbC.enc (r : ByteArray) : Res := ⟨[.vals false [((.str r), true)]], []⟩
def YbC.ans (k : Nat) : List Arg -> Ans
 | [.v (.int .i64 a), .v (.sl 9 c b)] => ⟨YbC.f k a c b, YbC.enc⟩
 | _ => Ans.no
def YbC.F : Fn := ⟨88, YbC.ans, sd YbC.ans Tryz.func88 [Xi.F] [] [] (fun k x => by unfold YbC.ans; split; (right; change _ = Option.map YbC.enc _; simp only [YbC.f.eq_2, mc, mb, ms, mn, -eq_self]; kernel_rfl); exact .inl rfl) (fun x => by unfold YbC.ans; split <;> rfl)⟩
def YaR.f : Nat -> Int -> Option ByteArray
 | 0, _ => none
 | k + 1, a => (YbC.f k a false ([(.str (⟨#[]⟩ : ByteArray)), (.str (⟨#[118, 111, 116, 101]⟩ : ByteArray)), (.str (⟨#[113, 99]⟩ : ByteArray)), (.str (⟨#[104, 101, 97, 100]⟩ : ByteArray)), (.str (⟨#[98, 108, 111, 99, 107]⟩ : ByteArray)), (.str (⟨#[116, 99]⟩ : ByteArray)), (.str (⟨#[112, 114, 111, 111, 102]⟩ : ByteArray)), (.str (⟨#[105, 110, 99, 108]⟩ : ByteArray))] : List T)).bind fun b => some b
def YaR.enc (r : ByteArray) : Res := ⟨[.vals false [((.str r), true)]], []⟩
def YaR.ans (k : Nat) : List Arg -> Ans
 | [.v (.int .i64 a)] => ⟨YaR.f k a, YaR.enc⟩
 | _ => Ans.no
def YaR.F : Fn := ⟨60, YaR.ans, sd YaR.ans Tryz.func60 [YbC.F] [] [] (fun k x => by unfold YaR.ans; split; (right; change _ = Option.map YaR.enc _; simp only [YaR.f.eq_2, mc, mb, ms, mn, -eq_self]; kernel_rfl); exact .inl rfl) (fun x => by unfold YaR.ans; split <;> rfl)⟩
mutual
def Xs.l0 : Nat -> Bool -> (List Int) -> Int -> Int -> Int -> Option (Int × Int × Int)
 | 0, _, _, _, _, _ => none
 | k + 1, e, c, b, d, a => cond (decide ((wrap64 (b + a)) >= ((c).length : Int))) (some (0, 0, 1)) (cond (decide ((0 : Int) <= (wrap64 (b + a)))) (cond (decide ((wrap64 (b + a)) < ((c).length : Int))) (cond (decide (a > 0)) (cond (decide ((rdI c (wrap64 (b + a))) = 0)) (some (0, 0, 2)) (cond (decide (a = 8)) (cond (decide ((rdI c (wrap64 (b + a))) >= 128)) (some (0, 0, 2)) (Xs.l1 k e c b d a (rdI c (wrap64 (b + a))))) (Xs.l1 k e c b d a (rdI c (wrap64 (b + a)))))) (cond (decide (a = 8)) (cond (decide ((rdI c (wrap64 (b + a))) >= 128)) (some (0, 0, 2)) (Xs.l1 k e c b d a (rdI c (wrap64 (b + a))))) (Xs.l1 k e c b d a (rdI c (wrap64 (b + a)))))) (none)) (none))
def Xs.l1 : Nat -> Bool -> (List Int) -> Int -> Int -> Int -> Int -> Option (Int × Int × Int)
 | 0, _, _, _, _, _, _ => none
 | k + 1, e, c, b, d, a, f => cond (decide ((0 : Int) <= (wrap64 ((7 : Int) * a)))) (cond (decide (f < 128)) ((YaS.f k (Go.bits .or .i64 d (shlI .i64 (wrap64 ((Go.bits .and .u8 f 127))) (wrap64 ((7 : Int) * a))))).bind fun j => cond (!j) (some (0, 0, 2)) (some ((Go.bits .or .i64 d (shlI .i64 (wrap64 ((Go.bits .and .u8 f 127))) (wrap64 ((7 : Int) * a)))), (wrap64 ((wrap64 (b + a)) + 1)), 0))) (Xs.l0 k e c b (Go.bits .or .i64 d (shlI .i64 (wrap64 ((Go.bits .and .u8 f 127))) (wrap64 ((7 : Int) * a)))) (wrap64 (a + 1)))) (none)
end
def Xs.f : Nat -> Bool -> (List Int) -> Int -> Option (Int × Int × Int)
 | 0, _, _, _ => none
 | k + 1, i, g, h => (Xi.f k h 0 ((g).length : Int)).bind fun j => cond (!j) (some (0, 0, 1)) (Xs.l0 k i g h 0 0)
def Xs.enc (r : Int × Int × Int) : Res := ⟨[.vals false [((.int .i64 r.1), true)], .vals false [((.int .i64 r.2.1), true)], .vals false [((.int .i64 r.2.2), true)]], []⟩
def Xs.ans (k : Nat) : List Arg -> Ans
 | [.v (.nums 5 .u8 i g), .v (.int .i64 h)] => ⟨Xs.f k i g h, Xs.enc⟩
 | _ => Ans.no
def Xs.cuts : List (Nat × Keep) := [(62, ⟨[(0, some []), (1, some []), (7, some []), (8, some [])], []⟩), (1987, ⟨[(0, some []), (1, some []), (7, some []), (8, some []), (9, some [])], []⟩)]
noncomputable def Xs.K0 : List Fr := framesAt [true, true, true, true, false] (bodyOf Tryz.f139 Xs.cuts) []
def Xs.N0 (e : Bool) (c : List Int) (b : Int) (d : Int) (a : Int) : St := stOf 61 61 2 [(0, .val ⟨(.nums 5 .u8 e c), [], false, none⟩), (1, vi b), (7, vi d), (8, vi a)] []
noncomputable def Xs.K1 : List Fr := framesAt [true, true, true, true, false, false, false, false, true, true] (bodyOf Tryz.f139 Xs.cuts) []
def Xs.N1 (e : Bool) (c : List Int) (b : Int) (d : Int) (a : Int) (f : Int) : St := stOf 61 61 2 [(0, .val ⟨(.nums 5 .u8 e c), [], false, none⟩), (1, vi b), (7, vi d), (8, vi a), (9, .val (V.s (.int .u8 f)))] []
theorem Xs.r (i) (g) (h) (k) : (∀ e c b d a, rounds Tryz.prog (tb [Xi.F, YaS.F]) (finish Tryz.prog [] Tryz.f139 [.v (.nums 5 .u8 i g), .v (.int .i64 h)]) 100000 k Xs.K0 (Xs.N0 e c b d a) = (Xs.l0 k e c b d a).map Xs.enc) /\ (∀ e c b d a f, rounds Tryz.prog (tb [Xi.F, YaS.F]) (finish Tryz.prog [] Tryz.f139 [.v (.nums 5 .u8 i g), .v (.int .i64 h)]) 100000 k Xs.K1 (Xs.N1 e c b d a f) = (Xs.l1 k e c b d a f).map Xs.enc) := by
 induction k with
 | zero => and_intros <;> intros <;> rfl
 | succ k ih =>
  have ⟨i0, i1⟩ := ih
  and_intros <;> intros <;> simp only [Xs.l0.eq_2, Xs.l1.eq_2, mc, mb, ms, mn, <- i0, <- i1, -eq_self] <;> kernel_rfl
def Xs.F : Fn := ⟨139, Xs.ans, sd Xs.ans Tryz.func139 [Xi.F, YaS.F] Xs.cuts [] (fun k x => by unfold Xs.ans; split; (right; rename_i i g h; have ⟨i0, i1⟩ := Xs.r i g h k; change _ = Option.map Xs.enc _; simp only [Xs.f.eq_2, mc, mb, ms, mn, <- i0, <- i1, -eq_self]; kernel_rfl); exact .inl rfl) (fun x => by unfold Xs.ans; split <;> rfl)⟩
def XF.f : Nat -> Bool -> (List Int) -> Int -> Int -> Option (Int × Bool × (List Int) × Int × Int)
 | 0, _, _, _, _ => none
 | k + 1, a, b, c, d => cond (!(decide (d = 0))) (some (0, a, b, c, d)) ((Xs.f k a b c).bind fun e => some (e.1, a, b, e.2.1, e.2.2))
def XF.enc (r : Int × Bool × (List Int) × Int × Int) : Res := ⟨[.vals false [((.int .i64 r.1), true)]], [[((.nums 5 .u8 r.2.1 r.2.2.1), false), ((.int .i64 r.2.2.2.1), true), ((.int .i64 r.2.2.2.2), true)]]⟩
def XF.ans (k : Nat) : List Arg -> Ans
 | [.box [((.nums 5 .u8 a b), false), ((.int .i64 c), false), ((.int .i64 d), false)]] => ⟨XF.f k a b c d, XF.enc⟩
 | _ => Ans.no
def XF.F : Fn := ⟨121, XF.ans, sd XF.ans Tryz.func121 [Xs.F] [] [true, false, true, true] (fun k x => by unfold XF.ans; split; (right; change _ = Option.map XF.enc _; simp only [XF.f.eq_2, mc, mb, ms, mn, -eq_self]; kernel_rfl); exact .inl rfl) (fun x => by unfold XF.ans; split <;> rfl)⟩
def YbD.f : Nat -> Bool -> (List Int) -> Int -> Int -> Int -> Option (Bool × (List Int) × Bool × (List Int) × Int × Int)
 | 0, _, _, _, _, _ => none
 | k + 1, a, b, c, d, f => cond (!(decide (d = 0))) (some (true, ([] : List Int), a, b, c, d)) ((Yas.f k a b c f).bind fun e => some (e.1, e.2.1, a, b, e.2.2.1, e.2.2.2))
def YbD.enc (r : Bool × (List Int) × Bool × (List Int) × Int × Int) : Res := ⟨[.vals false [((.nums 5 .u8 r.1 r.2.1), true)]], [[((.nums 5 .u8 r.2.2.1 r.2.2.2.1), false), ((.int .i64 r.2.2.2.2.1), true), ((.int .i64 r.2.2.2.2.2), true)]]⟩
def YbD.ans (k : Nat) : List Arg -> Ans
 | [.box [((.nums 5 .u8 a b), false), ((.int .i64 c), false), ((.int .i64 d), false)], .v (.int .i64 f)] => ⟨YbD.f k a b c d f, YbD.enc⟩
 | _ => Ans.no
def YbD.F : Fn := ⟨140, YbD.ans, sd YbD.ans Tryz.func140 [Yas.F] [] [true, false, true, true] (fun k x => by unfold YbD.ans; split; (right; change _ = Option.map YbD.enc _; simp only [YbD.f.eq_2, mc, mb, ms, mn, -eq_self]; kernel_rfl); exact .inl rfl) (fun x => by unfold YbD.ans; split <;> rfl)⟩
def Yah.f : Nat -> Bool -> (List Int) -> Int -> Int -> Option (Bool × (List Int) × Bool × (List Int) × Int × Int)
 | 0, _, _, _, _ => none
 | k + 1, b, c, d, e => (YbD.f k b c d e 32).bind fun a => some (a.1, a.2.1, a.2.2.1, a.2.2.2.1, a.2.2.2.2.1, a.2.2.2.2.2)
def Yah.enc (r : Bool × (List Int) × Bool × (List Int) × Int × Int) : Res := ⟨[.vals false [((.nums 5 .u8 r.1 r.2.1), true)]], [[((.nums 5 .u8 r.2.2.1 r.2.2.2.1), false), ((.int .i64 r.2.2.2.2.1), true), ((.int .i64 r.2.2.2.2.2), true)]]⟩
def Yah.ans (k : Nat) : List Arg -> Ans
 | [.box [((.nums 5 .u8 b c), false), ((.int .i64 d), false), ((.int .i64 e), false)]] => ⟨Yah.f k b c d e, Yah.enc⟩
 | _ => Ans.no
def Yah.F : Fn := ⟨122, Yah.ans, sd Yah.ans Tryz.func122 [YbD.F] [] [true, false, true, true] (fun k x => by unfold Yah.ans; split; (right; change _ = Option.map Yah.enc _; simp only [Yah.f.eq_2, mc, mb, ms, mn, -eq_self]; kernel_rfl); exact .inl rfl) (fun x => by unfold Yah.ans; split <;> rfl)⟩
def XD.f : Nat -> Bool -> (List Int) -> Int -> Int -> Bool -> Int -> Option (Bool × (List Int) × Int × Int)
 | 0, _, _, _, _, _, _ => none
 | k + 1, a, b, c, d, e, f => cond (decide (d = 0)) (cond (!e) (some (a, b, c, f)) (some (a, b, c, d))) (some (a, b, c, d))
def XD.enc (r : Bool × (List Int) × Int × Int) : Res := ⟨[], [[((.nums 5 .u8 r.1 r.2.1), false), ((.int .i64 r.2.2.1), true), ((.int .i64 r.2.2.2), true)]]⟩
def XD.ans (k : Nat) : List Arg -> Ans
 | [.box [((.nums 5 .u8 a b), false), ((.int .i64 c), false), ((.int .i64 d), false)], .v (.bool e), .v (.int .i64 f)] => ⟨XD.f k a b c d e f, XD.enc⟩
 | _ => Ans.no
def XD.F : Fn := ⟨126, XD.ans, sd XD.ans Tryz.func126 [] [] [false, true, true] (fun k x => by unfold XD.ans; split; (right; change _ = Option.map XD.enc _; simp only [XD.f.eq_2, mc, mb, ms, mn, -eq_self]; kernel_rfl); exact .inl rfl) (fun x => by unfold XD.ans; split <;> rfl)⟩
def Yai.f : Nat -> Bool -> (List Int) -> Int -> Int -> Int -> Int -> Option (Int × Bool × (List Int) × Int × Int)
 | 0, _, _, _, _, _, _ => none
 | k + 1, c, d, e, f, g, h => (XF.f k c d e f).bind fun a => (XD.f k a.2.1 a.2.2.1 a.2.2.2.1 a.2.2.2.2 (decide (a.1 < g)) h).bind fun b => some (a.1, b.1, b.2.1, b.2.2.1, b.2.2.2)
def Yai.enc (r : Int × Bool × (List Int) × Int × Int) : Res := ⟨[.vals false [((.int .i64 r.1), true)]], [[((.nums 5 .u8 r.2.1 r.2.2.1), false), ((.int .i64 r.2.2.2.1), true), ((.int .i64 r.2.2.2.2), true)]]⟩
def Yai.ans (k : Nat) : List Arg -> Ans
 | [.box [((.nums 5 .u8 c d), false), ((.int .i64 e), false), ((.int .i64 f), false)], .v (.int .i64 g), .v (.int .i64 h)] => ⟨Yai.f k c d e f g h, Yai.enc⟩
 | _ => Ans.no
def Yai.F : Fn := ⟨123, Yai.ans, sd Yai.ans Tryz.func123 [XF.F, XD.F] [] [true, false, true, true] (fun k x => by unfold Yai.ans; split; (right; change _ = Option.map Yai.enc _; simp only [Yai.f.eq_2, mc, mb, ms, mn, -eq_self]; kernel_rfl); exact .inl rfl) (fun x => by unfold Yai.ans; split <;> rfl)⟩
def YbE.f : Nat -> Int -> Int -> Int -> Int -> Int -> Bool -> (List Int) -> Int -> Int -> Option (Int × Int × Bool × (List Int) × Int × Bool × (List Int) × Bool × (List Int) × Int × Int)
 | 0, _, _, _, _, _, _, _, _, _ => none
 | k + 1, f, l, m, n, o, g, h, i, j => (XF.f k g h i j).bind fun c => (XF.f k c.2.1 c.2.2.1 c.2.2.2.1 c.2.2.2.2).bind fun d => (Yah.f k d.2.1 d.2.2.1 d.2.2.2.1 d.2.2.2.2).bind fun a => (Yai.f k a.2.2.1 a.2.2.2.1 a.2.2.2.2.1 a.2.2.2.2.2 f 5).bind fun e => (Yah.f k e.2.1 e.2.2.1 e.2.2.2.1 e.2.2.2.2).bind fun b => some (c.1, d.1, a.1, a.2.1, e.1, b.1, b.2.1, b.2.2.1, b.2.2.2.1, b.2.2.2.2.1, b.2.2.2.2.2)
def YbE.enc (r : Int × Int × Bool × (List Int) × Int × Bool × (List Int) × Bool × (List Int) × Int × Int) : Res := ⟨[.vals true [((.int .i64 r.1), true), ((.int .i64 r.2.1), true), ((.nums 5 .u8 r.2.2.1 r.2.2.2.1), true), ((.int .i64 r.2.2.2.2.1), true), ((.nums 5 .u8 r.2.2.2.2.2.1 r.2.2.2.2.2.2.1), true)]], [[((.nums 5 .u8 r.2.2.2.2.2.2.2.1 (e8 r).1), false), ((.int .i64 (e8 r).2.1), true), ((.int .i64 (e8 r).2.2), true)]]⟩
def YbE.ans (k : Nat) : List Arg -> Ans
 | [.v (.agg [(.int .i64 f), (.int .i64 l), (.int .i64 m), (.int .i64 n), (.int .i64 o)]), .box [((.nums 5 .u8 g h), false), ((.int .i64 i), false), ((.int .i64 j), false)]] => ⟨YbE.f k f l m n o g h i j, YbE.enc⟩
 | _ => Ans.no
def YbE.F : Fn := ⟨90, YbE.ans, sd YbE.ans Tryz.func90 [XF.F, Yah.F, Yai.F] [] [true, true, true, true, true, false, true, true] (fun k x => by unfold YbE.ans; split; (right; change _ = Option.map YbE.enc _; simp only [YbE.f.eq_2, mc, mb, ms, mn, -eq_self]; kernel_rfl); exact .inl rfl) (fun x => by unfold YbE.ans; split <;> rfl)⟩
def YbF.f : Nat -> Int -> Int -> Int -> Int -> Int -> Bool -> (List Int) -> Int -> Option (Int × Int × Bool × (List Int) × Int × Bool × (List Int) × Int × Int)
 | 0, _, _, _, _, _, _, _, _ => none
 | k + 1, b, c, d, e, f, g, h, i => (XE.f k b c d e f).bind fun j => cond (!j) (some (0, 0, true, ([] : List Int), 0, true, ([] : List Int), 0, 5)) ((YbE.f k b c d e f g h i 0).bind fun a => cond (!(decide (a.2.2.2.2.2.2.2.2.2.2 = 0))) (some (0, 0, true, ([] : List Int), 0, true, ([] : List Int), 0, a.2.2.2.2.2.2.2.2.2.2)) (some (a.1, a.2.1, a.2.2.1, a.2.2.2.1, a.2.2.2.2.1, a.2.2.2.2.2.1, a.2.2.2.2.2.2.1, a.2.2.2.2.2.2.2.2.2.1, 0)))
def YbF.enc (r : Int × Int × Bool × (List Int) × Int × Bool × (List Int) × Int × Int) : Res := ⟨[.vals true [((.int .i64 r.1), true), ((.int .i64 r.2.1), true), ((.nums 5 .u8 r.2.2.1 r.2.2.2.1), true), ((.int .i64 r.2.2.2.2.1), true), ((.nums 5 .u8 r.2.2.2.2.2.1 r.2.2.2.2.2.2.1), true)], .vals false [((.int .i64 r.2.2.2.2.2.2.2.1), true)], .vals false [((.int .i64 (e8 r)), true)]], []⟩
def YbF.ans (k : Nat) : List Arg -> Ans
 | [.v (.agg [(.int .i64 b), (.int .i64 c), (.int .i64 d), (.int .i64 e), (.int .i64 f)]), .v (.nums 5 .u8 g h), .v (.int .i64 i), .v (.fn 90 [])] => ⟨YbF.f k b c d e f g h i, YbF.enc⟩
 | _ => Ans.no
def YbF.F : Fn := ⟨89, YbF.ans, sd YbF.ans Tryz.func89 [XE.F, YbE.F] [] [] (fun k x => by unfold YbF.ans; split; (right; change _ = Option.map YbF.enc _; simp only [YbF.f.eq_2, mc, mb, ms, mn, -eq_self]; kernel_rfl); exact .inl rfl) (fun x => by unfold YbF.ans; split <;> rfl)⟩
def YaT.f : Nat -> Int -> Int -> Int -> Int -> Int -> Bool -> (List Int) -> Int -> Option (Int × Int × Bool × (List Int) × Int × Bool × (List Int) × Int × Int)
 | 0, _, _, _, _, _, _, _, _ => none
 | k + 1, b, c, d, e, f, g, h, i => (YbF.f k b c d e f g h i).bind fun a => some (a.1, a.2.1, a.2.2.1, a.2.2.2.1, a.2.2.2.2.1, a.2.2.2.2.2.1, a.2.2.2.2.2.2.1, a.2.2.2.2.2.2.2.1, a.2.2.2.2.2.2.2.2)
def YaT.enc (r : Int × Int × Bool × (List Int) × Int × Bool × (List Int) × Int × Int) : Res := ⟨[.vals true [((.int .i64 r.1), true), ((.int .i64 r.2.1), true), ((.nums 5 .u8 r.2.2.1 r.2.2.2.1), true), ((.int .i64 r.2.2.2.2.1), true), ((.nums 5 .u8 r.2.2.2.2.2.1 r.2.2.2.2.2.2.1), true)], .vals false [((.int .i64 r.2.2.2.2.2.2.2.1), true)], .vals false [((.int .i64 (e8 r)), true)]], []⟩
def YaT.ans (k : Nat) : List Arg -> Ans
 | [.v (.agg [(.int .i64 b), (.int .i64 c), (.int .i64 d), (.int .i64 e), (.int .i64 f)]), .v (.nums 5 .u8 g h), .v (.int .i64 i)] => ⟨YaT.f k b c d e f g h i, YaT.enc⟩
 | _ => Ans.no
def YaT.F : Fn := ⟨61, YaT.ans, sd YaT.ans Tryz.func61 [YbF.F] [] [] (fun k x => by unfold YaT.ans; split; (right; change _ = Option.map YaT.enc _; simp only [YaT.f.eq_2, mc, mb, ms, mn, -eq_self]; kernel_rfl); exact .inl rfl) (fun x => by unfold YaT.ans; split <;> rfl)⟩
def YaI.f : Nat -> Int -> Option Int
 | 0, _ => none
 | k + 1, a => cond (decide (a < 1)) (some 0) (some (wrap64 ((wrap64 (Int.tdiv (wrap64 (a - 1)) 8)) + 1)))
def YaI.enc (r : Int) : Res := ⟨[.vals false [((.int .i64 r), true)]], []⟩
def YaI.ans (k : Nat) : List Arg -> Ans
 | [.v (.int .i64 a)] => ⟨YaI.f k a, YaI.enc⟩
 | _ => Ans.no
def YaI.F : Fn := ⟨141, YaI.ans, sd YaI.ans Tryz.func141 [] [] [] (fun k x => by unfold YaI.ans; split; (right; change _ = Option.map YaI.enc _; simp only [YaI.f.eq_2, mc, mb, ms, mn, -eq_self]; kernel_rfl); exact .inl rfl) (fun x => by unfold YaI.ans; split <;> rfl)⟩
def Ybl.f : Nat -> Bool -> (List Int) -> Int -> Option Bool
 | 0, _, _, _ => none
 | k + 1, c, b, a => (Xi.f k a 0 (wrap64 ((wrap64 ((8 : Int) * ((b).length : Int))) - 1))).bind fun d => cond d (cond (decide ((0 : Int) <= (wrap64 (Int.tdiv a 8)))) (cond (decide ((wrap64 (Int.tdiv a 8)) < ((b).length : Int))) (cond (decide ((0 : Int) <= (Int.tmod a 8))) (some (decide ((Go.bits .and .u8 (shrI .u8 (rdI b (wrap64 (Int.tdiv a 8))) (Int.tmod a 8)) 1) = 1))) (none)) (none)) (none)) (some false)
def Ybl.enc (r : Bool) : Res := ⟨[.vals false [((.bool r), true)]], []⟩
def Ybl.ans (k : Nat) : List Arg -> Ans
 | [.v (.nums 5 .u8 c b), .v (.int .i64 a)] => ⟨Ybl.f k c b a, Ybl.enc⟩
 | _ => Ans.no
def Ybl.F : Fn := ⟨156, Ybl.ans, sd Ybl.ans Tryz.func156 [Xi.F] [] [] (fun k x => by unfold Ybl.ans; split; (right; change _ = Option.map Ybl.enc _; simp only [Ybl.f.eq_2, mc, mb, ms, mn, -eq_self]; kernel_rfl); exact .inl rfl) (fun x => by unfold Ybl.ans; split <;> rfl)⟩
def XS.l0 : Nat -> Bool -> (List Int) -> (List Int) -> Int -> Int -> Option (Bool × List Int)
 | 0, _, _, _, _, _ => none
 | k + 1, c, d, b, e, a => cond (decide (a < e)) ((Ybl.f k c d a).bind fun h => cond h (cond (decide ((b).length + 1 < 17592186044416)) (XS.l0 k c d (b ++ ([a] : List Int)) e (wrap64 (a + 1))) (none)) (XS.l0 k c d b e (wrap64 (a + 1)))) (some (false, b))
def XS.f : Nat -> Bool -> (List Int) -> Option (Bool × List Int)
 | 0, _, _ => none
 | k + 1, g, f => XS.l0 k g f ([] : List Int) (wrap64 ((8 : Int) * ((f).length : Int))) 0
def XS.enc (r : Bool × List Int) : Res := ⟨[.vals false [((.nums 3 .i64 r.1 r.2), true)]], []⟩
def XS.ans (k : Nat) : List Arg -> Ans
 | [.v (.nums 5 .u8 g f)] => ⟨XS.f k g f, XS.enc⟩
 | _ => Ans.no
def XS.cuts : List (Nat × Keep) := [(58, ⟨[(0, some []), (3, none), (8, some []), (9, some [])], []⟩)]
noncomputable def XS.K0 : List Fr := framesAt [true, true, false, true, false] (bodyOf Tryz.f152 XS.cuts) []
def XS.N0 (c : Bool) (d : List Int) (b : List Int) (e : Int) (a : Int) : St := stOf 21 21 1 [(0, .val ⟨(.nums 5 .u8 c d), [], false, none⟩), (3, .val ⟨(.nums 3 .i64 false b), [.l 3 0], true, some (.l 3 0)⟩), (8, vi e), (9, vi a)] []
theorem XS.r (g) (f) (k) : (∀ c d b e a, rounds Tryz.prog (tb [Ybl.F]) (finish Tryz.prog [] Tryz.f152 [.v (.nums 5 .u8 g f)]) 100000 k XS.K0 (XS.N0 c d b e a) = (XS.l0 k c d b e a).map XS.enc) := by
 induction k with
 | zero => intros <;> rfl
 | succ k ih =>
  have i0 := ih
  intros <;> simp only [XS.l0.eq_2, mc, mb, ms, mn, <- i0, -eq_self] <;> kernel_rfl
def XS.F : Fn := ⟨152, XS.ans, sd XS.ans Tryz.func152 [Ybl.F] XS.cuts [] (fun k x => by unfold XS.ans; split; (right; rename_i g f; have i0 := XS.r g f k; change _ = Option.map XS.enc _; simp only [XS.f.eq_2, mc, mb, ms, mn, <- i0, -eq_self]; kernel_rfl); exact .inl rfl) (fun x => by unfold XS.ans; split <;> rfl)⟩
def Yac.l0 : Nat -> Int -> Bool -> (List Int) -> Int -> Int -> Option Bool
 | 0, _, _, _, _, _ => none
 | k + 1, e, h, c, f, a => cond (decide (a < f)) (cond (decide ((0 : Int) <= a)) (cond (decide (a < ((c).length : Int))) (cond (decide ((rdI c a) >= e)) (some false) (Yac.l0 k e h c f (wrap64 (a + 1)))) (none)) (none)) (some true)
def Yac.f : Nat -> Bool -> (List Int) -> Int -> Option Bool
 | 0, _, _, _ => none
 | k + 1, g, d, b => (Xi.f k b 1 10).bind fun j => cond (!j) (some false) ((YaI.f k b).bind fun l => cond (!(decide (((d).length : Int) = l))) (some false) ((XS.f k g d).bind fun i => Yac.l0 k b i.1 i.2 ((i.2).length : Int) 0))
def Yac.enc (r : Bool) : Res := ⟨[.vals false [((.bool r), true)]], []⟩
def Yac.ans (k : Nat) : List Arg -> Ans
 | [.v (.nums 5 .u8 g d), .v (.int .i64 b)] => ⟨Yac.f k g d b, Yac.enc⟩
 | _ => Ans.no
def Yac.cuts : List (Nat × Keep) := [(58, ⟨[(1, some []), (18, none), (19, some []), (20, some [])], []⟩)]
noncomputable def Yac.K0 : List Fr := framesAt [true, true, false, true, false] (bodyOf Tryz.f142 Yac.cuts) []
def Yac.N0 (e : Int) (h : Bool) (c : List Int) (f : Int) (a : Int) : St := stOf 28 28 2 [(1, vi e), (18, .val ⟨(.nums 3 .i64 h c), [.l 18 0], true, some (.l 18 0)⟩), (19, vi f), (20, vi a)] []
theorem Yac.r (g) (d) (b) (k) : (∀ e h c f a, rounds Tryz.prog (tb [Xi.F, YaI.F, XS.F]) (finish Tryz.prog [] Tryz.f142 [.v (.nums 5 .u8 g d), .v (.int .i64 b)]) 100000 k Yac.K0 (Yac.N0 e h c f a) = (Yac.l0 k e h c f a).map Yac.enc) := by
 induction k with
 | zero => intros <;> rfl
 | succ k ih =>
  have i0 := ih
  intros <;> simp only [Yac.l0.eq_2, mc, mb, ms, mn, <- i0, -eq_self] <;> kernel_rfl
def Yac.F : Fn := ⟨142, Yac.ans, sd Yac.ans Tryz.func142 [Xi.F, YaI.F, XS.F] Yac.cuts [] (fun k x => by unfold Yac.ans; split; (right; rename_i g d b; have i0 := Yac.r g d b k; change _ = Option.map Yac.enc _; simp only [Yac.f.eq_2, mc, mb, ms, mn, <- i0, -eq_self]; kernel_rfl); exact .inl rfl) (fun x => by unfold Yac.ans; split <;> rfl)⟩
def Ybm.f : Nat -> Bool -> (List Int) -> Int -> Int -> Option (Bool × (List Int) × Int × Int)
 | 0, _, _, _, _ => none
 | k + 1, c, d, e, b => (Xi.f k b 1 10).bind fun f => cond (!f) (some (true, ([] : List Int), 0, 5)) ((YaI.f k b).bind fun g => (Yas.f k c d e g).bind fun a => cond (!(decide (a.2.2.2 = 0))) (some (true, ([] : List Int), 0, a.2.2.2)) ((Yac.f k a.1 a.2.1 b).bind fun h => cond (!h) (some (true, ([] : List Int), 0, 4)) (some (a.1, a.2.1, a.2.2.1, 0))))
def Ybm.enc (r : Bool × (List Int) × Int × Int) : Res := ⟨[.vals false [((.nums 5 .u8 r.1 r.2.1), true)], .vals false [((.int .i64 r.2.2.1), true)], .vals false [((.int .i64 r.2.2.2), true)]], []⟩
def Ybm.ans (k : Nat) : List Arg -> Ans
 | [.v (.nums 5 .u8 c d), .v (.int .i64 e), .v (.int .i64 b)] => ⟨Ybm.f k c d e b, Ybm.enc⟩
 | _ => Ans.no
def Ybm.F : Fn := ⟨124, Ybm.ans, sd Ybm.ans Tryz.func124 [Xi.F, Yas.F, YaI.F, Yac.F] [] [] (fun k x => by unfold Ybm.ans; split; (right; change _ = Option.map Ybm.enc _; simp only [Ybm.f.eq_2, mc, mb, ms, mn, -eq_self]; kernel_rfl); exact .inl rfl) (fun x => by unfold Ybm.ans; split <;> rfl)⟩
def Ybn.f : Nat -> Int -> Option Int
 | 0, _ => none
 | k + 1, a => cond (decide ((0 : Int) <= a)) (cond (decide (a < (((⟨#[0, 1, 1, 2, 1, 2, 2, 3, 1, 2, 2, 3, 2, 3, 3, 4, 1, 2, 2, 3, 2, 3, 3, 4, 2, 3, 3, 4, 3, 4, 4, 5, 1, 2, 2, 3, 2, 3, 3, 4, 2, 3, 3, 4, 3, 4, 4, 5, 2, 3, 3, 4, 3, 4, 4, 5, 3, 4, 4, 5, 4, 5, 5, 6, 1, 2, 2, 3, 2, 3, 3, 4, 2, 3, 3, 4, 3, 4, 4, 5, 2, 3, 3, 4, 3, 4, 4, 5, 3, 4, 4, 5, 4, 5, 5, 6, 2, 3, 3, 4, 3, 4, 4, 5, 3, 4, 4, 5, 4, 5, 5, 6, 3, 4, 4, 5, 4, 5, 5, 6, 4, 5, 5, 6, 5, 6, 6, 7, 1, 2, 2, 3, 2, 3, 3, 4, 2, 3, 3, 4, 3, 4, 4, 5, 2, 3, 3, 4, 3, 4, 4, 5, 3, 4, 4, 5, 4, 5, 5, 6, 2, 3, 3, 4, 3, 4, 4, 5, 3, 4, 4, 5, 4, 5, 5, 6, 3, 4, 4, 5, 4, 5, 5, 6, 4, 5, 5, 6, 5, 6, 6, 7, 2, 3, 3, 4, 3, 4, 4, 5, 3, 4, 4, 5, 4, 5, 5, 6, 3, 4, 4, 5, 4, 5, 5, 6, 4, 5, 5, 6, 5, 6, 6, 7, 3, 4, 4, 5, 4, 5, 5, 6, 4, 5, 5, 6, 5, 6, 6, 7, 4, 5, 5, 6, 5, 6, 6, 7, 5, 6, 6, 7, 6, 7, 7, 8]⟩ : ByteArray)).size : Int))) (some (wrap64 ((btI (⟨#[0, 1, 1, 2, 1, 2, 2, 3, 1, 2, 2, 3, 2, 3, 3, 4, 1, 2, 2, 3, 2, 3, 3, 4, 2, 3, 3, 4, 3, 4, 4, 5, 1, 2, 2, 3, 2, 3, 3, 4, 2, 3, 3, 4, 3, 4, 4, 5, 2, 3, 3, 4, 3, 4, 4, 5, 3, 4, 4, 5, 4, 5, 5, 6, 1, 2, 2, 3, 2, 3, 3, 4, 2, 3, 3, 4, 3, 4, 4, 5, 2, 3, 3, 4, 3, 4, 4, 5, 3, 4, 4, 5, 4, 5, 5, 6, 2, 3, 3, 4, 3, 4, 4, 5, 3, 4, 4, 5, 4, 5, 5, 6, 3, 4, 4, 5, 4, 5, 5, 6, 4, 5, 5, 6, 5, 6, 6, 7, 1, 2, 2, 3, 2, 3, 3, 4, 2, 3, 3, 4, 3, 4, 4, 5, 2, 3, 3, 4, 3, 4, 4, 5, 3, 4, 4, 5, 4, 5, 5, 6, 2, 3, 3, 4, 3, 4, 4, 5, 3, 4, 4, 5, 4, 5, 5, 6, 3, 4, 4, 5, 4, 5, 5, 6, 4, 5, 5, 6, 5, 6, 6, 7, 2, 3, 3, 4, 3, 4, 4, 5, 3, 4, 4, 5, 4, 5, 5, 6, 3, 4, 4, 5, 4, 5, 5, 6, 4, 5, 5, 6, 5, 6, 6, 7, 3, 4, 4, 5, 4, 5, 5, 6, 4, 5, 5, 6, 5, 6, 6, 7, 4, 5, 5, 6, 5, 6, 6, 7, 5, 6, 6, 7, 6, 7, 7, 8]⟩ : ByteArray) a)))) (none)) (none)
def Ybn.enc (r : Int) : Res := ⟨[.vals false [((.int .i64 r), true)]], []⟩
def Ybn.ans (k : Nat) : List Arg -> Ans
 | [.v (.int .u8 a)] => ⟨Ybn.f k a, Ybn.enc⟩
 | _ => Ans.no
set_option maxRecDepth 100000 in
def Ybn.F : Fn := ⟨143, Ybn.ans, sd Ybn.ans Tryz.func143 [] [] [] (fun k x => by unfold Ybn.ans; split; (right; change _ = Option.map Ybn.enc _; simp only [Ybn.f.eq_2, mc, mb, ms, mn, -eq_self]; kernel_rfl); exact .inl rfl) (fun x => by unfold Ybn.ans; split <;> rfl)⟩
end Go.Proofs.YthocpcfjfgnkgaaGreatG
