/- What the functions compute, printed by a program of this repo; each is shown to be what the machine of values answers. Names are short, for the claim's size. No condition. -/
import Derived.Test.YthocpcfjfgnkgaaGreatProg
import Derived.KernelRfl
import Derived.Test.YthocpcfjfgnkgaaGreatGFnExactClosef
namespace Go.Proofs.YthocpcfjfgnkgaaGreatG
open Go Go.Proofs.YthocpcfjfgnkgaaGreatRv Go.Proofs Go.RowKit
set_option linter.unusedVariables false
set_option linter.unusedSimpArgs false
def Yaz.f : Nat -> Int -> Int -> Int -> Bool -> (List Int) -> Int -> Bool -> (List Int) -> Int -> Int -> Bool -> (List Int) -> Bool -> (List Int) -> Bool -> (List T) -> Int -> Int -> Int -> Bool -> (List Int) -> Bool -> (List Int) -> Int -> Int -> Bool -> (List Int) -> Bool -> (List Int) -> Bool -> (List T) -> Int -> Int -> Int -> Bool -> (List Int) -> Bool -> (List Int) -> Int -> Int -> Bool -> (List Int) -> Bool -> (List Int) -> Bool -> (List T) -> Bool -> (List T) -> Int -> Bool -> (List T) -> Bool -> (List T) -> Int -> Int -> Bool -> (List Int) -> Bool -> (List Int) -> Bool -> (List T) -> Int -> Int -> Int -> Bool -> (List Int) -> Bool -> (List T) -> Int -> Int -> Int -> Bool -> (List Int) -> Int -> Bool -> (List Int) -> Int -> Int -> Bool -> (List Int) -> Bool -> (List Int) -> Bool -> (List T) -> Int -> Int -> Int -> Bool -> (List Int) -> Bool -> (List Int) -> Int -> Int -> Bool -> (List Int) -> Bool -> (List Int) -> Bool -> (List T) -> Int -> Int -> Int -> Bool -> (List Int) -> Bool -> (List Int) -> Int -> Int -> Bool -> (List Int) -> Bool -> (List Int) -> Bool -> (List T) -> Bool -> (List T) -> Int -> Bool -> (List T) -> Bool -> (List T) -> Int -> Int -> Bool -> (List Int) -> Bool -> (List Int) -> Bool -> (List T) -> Int -> Int -> Int -> Bool -> (List Int) -> Bool -> (List T) -> Option Bool
 | 0, _, _, _, _, _, _, _, _, _, _, _, _, _, _, _, _, _, _, _, _, _, _, _, _, _, _, _, _, _, _, _, _, _, _, _, _, _, _, _, _, _, _, _, _, _, _, _, _, _, _, _, _, _, _, _, _, _, _, _, _, _, _, _, _, _, _, _, _, _, _, _, _, _, _, _, _, _, _, _, _, _, _, _, _, _, _, _, _, _, _, _, _, _, _, _, _, _, _, _, _, _, _, _, _, _, _, _, _, _, _, _, _, _, _, _, _, _, _, _, _, _, _, _, _, _, _, _, _, _, _, _, _, _, _, _, _ => none
 | k + 1, b, c, d, f, i, l, m, o, p, q, s, u, v, w, y, z, a0, a1, a2, a3, a4, a5, a6, a7, a8, a9, b0, b1, b2, b3, b4, b5, b6, b7, b8, b9, c0, c1, c2, c3, c4, c5, c6, c7, c8, c9, d0, d1, d2, d3, d4, d5, d6, d7, d8, d9, e0, e1, e2, e3, e4, e5, e6, e7, e8, e9, f0, f1, f2, f3, f4, f5, f6, f7, f8, f9, g0, g1, g2, g3, g4, g5, g6, g7, g8, g9, h0, h1, h2, h3, h4, h5, h6, h7, h8, h9, i0, i1, i2, i3, i4, i5, i6, i7, i8, i9, j0, j1, j2, j3, j4, j5, j6, j7, j8, j9, l2, l3, l4, l5, l6, l7, l8, l9, m0, m1, m2, m3, m4, m5, m6, m7, m8, m9, n0, n1 => cond (!(decide (b = f2))) (some false) ((Ybs.f k c d f i l m o f3 f4 f5 f6 f7 f8 f9).bind fun n2 => cond (!n2) (some false) ((Yay.f k p q s u v w y z g0 g1 g2 g3 g4 g5 g6 g7).bind fun n3 => cond (!n3) (some false) ((Yav.f k a0 a1 a2 a3 a4 a5 a6 a7 a8 a9 b0 b1 b2 b3 b4 g8 g9 h0 h1 h2 h3 h4 h5 h6 h7 h8 h9 i0 i1 i2).bind fun n4 => cond (!n4) (some false) ((Ybt.f k b5 b6 b7 b8 b9 c0 c1 c2 c3 c4 c5 c6 c7 c8 c9 d0 d1 i3 i4 i5 i6 i7 i8 i9 j0 j1 j2 j3 j4 j5 j6 j7 j8 j9).bind fun n5 => cond (!n5) (some false) ((Ybv.f k d2 d3 d4 l2 l3 l4).bind fun n6 => cond (!n6) (some false) ((Ybw.f k d5 d6 d7 d8 d9 e0 e1 e2 e3 e4 l5 l6 l7 l8 l9 m0 m1 m2 m3 m4).bind fun n7 => cond (!n7) (some false) ((Ybx.f k e5 e6 e7 e8 e9 f0 f1 m5 m6 m7 m8 m9 n0 n1).bind fun n8 => cond (!n8) (some false) (some true))))))))
def Yaz.enc (r : Bool) : Res := ⟨[.vals false [((.bool r), true)]], []⟩
def Yaz.ans (k : Nat) : List Arg -> Ans
 | [.v (.agg l0), .v (.agg l1)] => (takeI l0 fun b l0 => (takeI l0 fun c l0 => (takeI l0 fun d l0 => (takeN 5 l0 fun f i l0 => (takeI l0 fun l l0 => (takeN 5 l0 fun m o l0 => (takeI l0 fun p l0 => (takeI l0 fun q l0 => (takeN 5 l0 fun s u l0 => (takeN 5 l0 fun v w l0 => (takeS 24 l0 fun y z l0 => (takeI l0 fun a0 l0 => (takeI l0 fun a1 l0 => (takeI l0 fun a2 l0 => (takeN 5 l0 fun a3 a4 l0 => (takeN 5 l0 fun a5 a6 l0 => (takeI l0 fun a7 l0 => (takeI l0 fun a8 l0 => (takeN 5 l0 fun a9 b0 l0 => (takeN 5 l0 fun b1 b2 l0 => (takeS 24 l0 fun b3 b4 l0 => (takeI l0 fun b5 l0 => (takeI l0 fun b6 l0 => (takeI l0 fun b7 l0 => (takeN 5 l0 fun b8 b9 l0 => (takeN 5 l0 fun c0 c1 l0 => (takeI l0 fun c2 l0 => (takeI l0 fun c3 l0 => (takeN 5 l0 fun c4 c5 l0 => (takeN 5 l0 fun c6 c7 l0 => (takeS 24 l0 fun c8 c9 l0 => (takeS 24 l0 fun d0 d1 l0 => (takeI l0 fun d2 l0 => (takeS 83 l0 fun d3 d4 l0 => (takeS 54 l0 fun d5 d6 l0 => (takeI l0 fun d7 l0 => (takeI l0 fun d8 l0 => (takeN 5 l0 fun d9 e0 l0 => (takeN 5 l0 fun e1 e2 l0 => (takeS 24 l0 fun e3 e4 l0 => (takeI l0 fun e5 l0 => (takeI l0 fun e6 l0 => (takeI l0 fun e7 l0 => (takeN 5 l0 fun e8 e9 l0 => (takeS 24 l0 fun f0 f1 l0 => (takeE l0 (takeI l1 fun f2 l1 => (takeI l1 fun f3 l1 => (takeI l1 fun f4 l1 => (takeN 5 l1 fun f5 f6 l1 => (takeI l1 fun f7 l1 => (takeN 5 l1 fun f8 f9 l1 => (takeI l1 fun g0 l1 => (takeI l1 fun g1 l1 => (takeN 5 l1 fun g2 g3 l1 => (takeN 5 l1 fun g4 g5 l1 => (takeS 24 l1 fun g6 g7 l1 => (takeI l1 fun g8 l1 => (takeI l1 fun g9 l1 => (takeI l1 fun h0 l1 => (takeN 5 l1 fun h1 h2 l1 => (takeN 5 l1 fun h3 h4 l1 => (takeI l1 fun h5 l1 => (takeI l1 fun h6 l1 => (takeN 5 l1 fun h7 h8 l1 => (takeN 5 l1 fun h9 i0 l1 => (takeS 24 l1 fun i1 i2 l1 => (takeI l1 fun i3 l1 => (takeI l1 fun i4 l1 => (takeI l1 fun i5 l1 => (takeN 5 l1 fun i6 i7 l1 => (takeN 5 l1 fun i8 i9 l1 => (takeI l1 fun j0 l1 => (takeI l1 fun j1 l1 => (takeN 5 l1 fun j2 j3 l1 => (takeN 5 l1 fun j4 j5 l1 => (takeS 24 l1 fun j6 j7 l1 => (takeS 24 l1 fun j8 j9 l1 => (takeI l1 fun l2 l1 => (takeS 83 l1 fun l3 l4 l1 => (takeS 54 l1 fun l5 l6 l1 => (takeI l1 fun l7 l1 => (takeI l1 fun l8 l1 => (takeN 5 l1 fun l9 m0 l1 => (takeN 5 l1 fun m1 m2 l1 => (takeS 24 l1 fun m3 m4 l1 => (takeI l1 fun m5 l1 => (takeI l1 fun m6 l1 => (takeI l1 fun m7 l1 => (takeN 5 l1 fun m8 m9 l1 => (takeS 24 l1 fun n0 n1 l1 => (takeE l1 ⟨Yaz.f k b c d f i l m o p q s u v w y z a0 a1 a2 a3 a4 a5 a6 a7 a8 a9 b0 b1 b2 b3 b4 b5 b6 b7 b8 b9 c0 c1 c2 c3 c4 c5 c6 c7 c8 c9 d0 d1 d2 d3 d4 d5 d6 d7 d8 d9 e0 e1 e2 e3 e4 e5 e6 e7 e8 e9 f0 f1 f2 f3 f4 f5 f6 f7 f8 f9 g0 g1 g2 g3 g4 g5 g6 g7 g8 g9 h0 h1 h2 h3 h4 h5 h6 h7 h8 h9 i0 i1 i2 i3 i4 i5 i6 i7 i8 i9 j0 j1 j2 j3 j4 j5 j6 j7 j8 j9 l2 l3 l4 l5 l6 l7 l8 l9 m0 m1 m2 m3 m4 m5 m6 m7 m8 m9 n0 n1, Yaz.enc⟩))))))))))))))))))))))))))))))))))))))))))))))))))))))))))))))))))))))))))))))))))))))))))))
 | _ => Ans.no
set_option maxHeartbeats 0 in
set_option maxRecDepth 100000 in
theorem Yaz.eq (k b c d f i l m o p q s u v w y z a0 a1 a2 a3 a4 a5 a6 a7 a8 a9 b0 b1 b2 b3 b4 b5 b6 b7 b8 b9 c0 c1 c2 c3 c4 c5 c6 c7 c8 c9 d0 d1 d2 d3 d4 d5 d6 d7 d8 d9 e0 e1 e2 e3 e4 e5 e6 e7 e8 e9 f0 f1 f2 f3 f4 f5 f6 f7 f8 f9 g0 g1 g2 g3 g4 g5 g6 g7 g8 g9 h0 h1 h2 h3 h4 h5 h6 h7 h8 h9 i0 i1 i2 i3 i4 i5 i6 i7 i8 i9 j0 j1 j2 j3 j4 j5 j6 j7 j8 j9 l2 l3 l4 l5 l6 l7 l8 l9 m0 m1 m2 m3 m4 m5 m6 m7 m8 m9 n0 n1) : answer Tryz.prog (tb [Ybs.F, Yay.F, Yav.F, Ybt.F, Ybv.F, Ybw.F, Ybx.F]) 100000 [] [] Tryz.f43 (k + 1) [.v (.agg ((.int .i64 b) :: (.int .i64 c) :: (.int .i64 d) :: (.nums 5 .u8 f i) :: (.int .i64 l) :: (.nums 5 .u8 m o) :: (.int .i64 p) :: (.int .i64 q) :: (.nums 5 .u8 s u) :: (.nums 5 .u8 v w) :: (.sl 24 y z) :: (.int .i64 a0) :: (.int .i64 a1) :: (.int .i64 a2) :: (.nums 5 .u8 a3 a4) :: (.nums 5 .u8 a5 a6) :: (.int .i64 a7) :: (.int .i64 a8) :: (.nums 5 .u8 a9 b0) :: (.nums 5 .u8 b1 b2) :: (.sl 24 b3 b4) :: (.int .i64 b5) :: (.int .i64 b6) :: (.int .i64 b7) :: (.nums 5 .u8 b8 b9) :: (.nums 5 .u8 c0 c1) :: (.int .i64 c2) :: (.int .i64 c3) :: (.nums 5 .u8 c4 c5) :: (.nums 5 .u8 c6 c7) :: (.sl 24 c8 c9) :: (.sl 24 d0 d1) :: (.int .i64 d2) :: (.sl 83 d3 d4) :: (.sl 54 d5 d6) :: (.int .i64 d7) :: (.int .i64 d8) :: (.nums 5 .u8 d9 e0) :: (.nums 5 .u8 e1 e2) :: (.sl 24 e3 e4) :: (.int .i64 e5) :: (.int .i64 e6) :: (.int .i64 e7) :: (.nums 5 .u8 e8 e9) :: (.sl 24 f0 f1) :: [])), .v (.agg ((.int .i64 f2) :: (.int .i64 f3) :: (.int .i64 f4) :: (.nums 5 .u8 f5 f6) :: (.int .i64 f7) :: (.nums 5 .u8 f8 f9) :: (.int .i64 g0) :: (.int .i64 g1) :: (.nums 5 .u8 g2 g3) :: (.nums 5 .u8 g4 g5) :: (.sl 24 g6 g7) :: (.int .i64 g8) :: (.int .i64 g9) :: (.int .i64 h0) :: (.nums 5 .u8 h1 h2) :: (.nums 5 .u8 h3 h4) :: (.int .i64 h5) :: (.int .i64 h6) :: (.nums 5 .u8 h7 h8) :: (.nums 5 .u8 h9 i0) :: (.sl 24 i1 i2) :: (.int .i64 i3) :: (.int .i64 i4) :: (.int .i64 i5) :: (.nums 5 .u8 i6 i7) :: (.nums 5 .u8 i8 i9) :: (.int .i64 j0) :: (.int .i64 j1) :: (.nums 5 .u8 j2 j3) :: (.nums 5 .u8 j4 j5) :: (.sl 24 j6 j7) :: (.sl 24 j8 j9) :: (.int .i64 l2) :: (.sl 83 l3 l4) :: (.sl 54 l5 l6) :: (.int .i64 l7) :: (.int .i64 l8) :: (.nums 5 .u8 l9 m0) :: (.nums 5 .u8 m1 m2) :: (.sl 24 m3 m4) :: (.int .i64 m5) :: (.int .i64 m6) :: (.int .i64 m7) :: (.nums 5 .u8 m8 m9) :: (.sl 24 n0 n1) :: []))] = (Yaz.f (k + 1) b c d f i l m o p q s u v w y z a0 a1 a2 a3 a4 a5 a6 a7 a8 a9 b0 b1 b2 b3 b4 b5 b6 b7 b8 b9 c0 c1 c2 c3 c4 c5 c6 c7 c8 c9 d0 d1 d2 d3 d4 d5 d6 d7 d8 d9 e0 e1 e2 e3 e4 e5 e6 e7 e8 e9 f0 f1 f2 f3 f4 f5 f6 f7 f8 f9 g0 g1 g2 g3 g4 g5 g6 g7 g8 g9 h0 h1 h2 h3 h4 h5 h6 h7 h8 h9 i0 i1 i2 i3 i4 i5 i6 i7 i8 i9 j0 j1 j2 j3 j4 j5 j6 j7 j8 j9 l2 l3 l4 l5 l6 l7 l8 l9 m0 m1 m2 m3 m4 m5 m6 m7 m8 m9 n0 n1).map Yaz.enc := by
 simp only [Yaz.f.eq_2, mc, mb, ms, mn, -eq_self]; show _ = _; kernel_rfl
theorem Yaz.sound (k : Nat) : SoundF Tryz.prog 43 (fun a => (Yaz.ans k a).val) := by
 refine qw (fun args res h => ?_) (fun t n => rfl)
 unfold Yaz.ans at h
 dsimp only at h
 split at h
 ·
  repeat first | (obtain ⟨_, _, e, g⟩ := qfj h; clear h; subst e; have h := g; clear g) | (obtain ⟨_, _, _, e, g⟩ := qff h; clear h; subst e; have h := g; clear g) | (obtain ⟨_, _, _, e, g⟩ := qfn h; clear h; subst e; have h := g; clear g) | (obtain ⟨e, g⟩ := qft h; clear h; subst e; have h := g; clear g)
  cases k with
  | zero => cases h
  | succ k =>
   unfold Ans.val at h
   rw [<- Yaz.eq] at h
   exact qB mixed Tryz.func43 _ _ _ (k + 1) (fun j _ => qu (qbG j [Ybs.F, Yay.F, Yav.F, Ybt.F, Ybv.F, Ybw.F, Ybx.F])) _ _ h
 ·exact (Ans.no_val h).elim
set_option maxHeartbeats 0 in
set_option maxRecDepth 100000 in
def Yaz.F : Fn := ⟨43, Yaz.ans, Yaz.sound⟩
def YaA.f : Nat -> Int -> Int -> Int -> Int -> Int -> Bool -> (List Int) -> Int -> Bool -> (List Int) -> Int -> Int -> Bool -> (List Int) -> Bool -> (List Int) -> Bool -> (List T) -> Int -> Int -> Int -> Bool -> (List Int) -> Bool -> (List Int) -> Int -> Int -> Bool -> (List Int) -> Bool -> (List Int) -> Bool -> (List T) -> Int -> Int -> Int -> Bool -> (List Int) -> Bool -> (List Int) -> Int -> Int -> Bool -> (List Int) -> Bool -> (List Int) -> Bool -> (List T) -> Bool -> (List T) -> Int -> Bool -> (List T) -> Bool -> (List T) -> Int -> Int -> Bool -> (List Int) -> Bool -> (List Int) -> Bool -> (List T) -> Int -> Int -> Int -> Bool -> (List Int) -> Bool -> (List T) -> Int -> Int -> Int -> Int -> Int -> Bool -> (List Int) -> Int -> Bool -> (List Int) -> Int -> Int -> Bool -> (List Int) -> Bool -> (List Int) -> Bool -> (List T) -> Int -> Int -> Int -> Bool -> (List Int) -> Bool -> (List Int) -> Int -> Int -> Bool -> (List Int) -> Bool -> (List Int) -> Bool -> (List T) -> Int -> Int -> Int -> Bool -> (List Int) -> Bool -> (List Int) -> Int -> Int -> Bool -> (List Int) -> Bool -> (List Int) -> Bool -> (List T) -> Bool -> (List T) -> Int -> Bool -> (List T) -> Bool -> (List T) -> Int -> Int -> Bool -> (List Int) -> Bool -> (List Int) -> Bool -> (List T) -> Int -> Int -> Int -> Bool -> (List Int) -> Bool -> (List T) -> Option Bool
 | 0, _, _, _, _, _, _, _, _, _, _, _, _, _, _, _, _, _, _, _, _, _, _, _, _, _, _, _, _, _, _, _, _, _, _, _, _, _, _, _, _, _, _, _, _, _, _, _, _, _, _, _, _, _, _, _, _, _, _, _, _, _, _, _, _, _, _, _, _, _, _, _, _, _, _, _, _, _, _, _, _, _, _, _, _, _, _, _, _, _, _, _, _, _, _, _, _, _, _, _, _, _, _, _, _, _, _, _, _, _, _, _, _, _, _, _, _, _, _, _, _, _, _, _, _, _, _, _, _, _, _, _, _, _, _, _, _, _, _, _, _ => none
 | k + 1, b, c, d, f, i, l, m, o, p, q, s, u, v, w, y, z, a0, a1, a2, a3, a4, a5, a6, a7, a8, a9, b0, b1, b2, b3, b4, b5, b6, b7, b8, b9, c0, c1, c2, c3, c4, c5, c6, c7, c8, c9, d0, d1, d2, d3, d4, d5, d6, d7, d8, d9, e0, e1, e2, e3, e4, e5, e6, e7, e8, e9, f0, f1, f2, f3, f4, f5, f6, f7, f8, f9, g0, g1, g2, g3, g4, g5, g6, g7, g8, g9, h0, h1, h2, h3, h4, h5, h6, h7, h8, h9, i0, i1, i2, i3, i4, i5, i6, i7, i8, i9, j0, j1, j2, j3, j4, j5, j6, j7, j8, j9, l2, l3, l4, l5, l6, l7, l8, l9, m0, m1, m2, m3, m4, m5, m6, m7, m8, m9, n0, n1, n2, n3, n4, n5 => cond (!(decide (b = f4))) (some false) (cond (!(decide (c = f5))) (some false) ((Yaz.f k d f i l m o p q s u v w y z a0 a1 a2 a3 a4 a5 a6 a7 a8 a9 b0 b1 b2 b3 b4 b5 b6 b7 b8 b9 c0 c1 c2 c3 c4 c5 c6 c7 c8 c9 d0 d1 d2 d3 d4 d5 d6 d7 d8 d9 e0 e1 e2 e3 e4 e5 e6 e7 e8 e9 f0 f1 f2 f3 f6 f7 f8 f9 g0 g1 g2 g3 g4 g5 g6 g7 g8 g9 h0 h1 h2 h3 h4 h5 h6 h7 h8 h9 i0 i1 i2 i3 i4 i5 i6 i7 i8 i9 j0 j1 j2 j3 j4 j5 j6 j7 j8 j9 l2 l3 l4 l5 l6 l7 l8 l9 m0 m1 m2 m3 m4 m5 m6 m7 m8 m9 n0 n1 n2 n3 n4 n5).bind fun n6 => cond (!n6) (some false) (some true)))
def YaA.enc (r : Bool) : Res := ⟨[.vals false [((.bool r), true)]], []⟩
def YaA.ans (k : Nat) : List Arg -> Ans
 | [.v (.agg l0), .v (.agg l1)] => (takeI l0 fun b l0 => (takeI l0 fun c l0 => (takeI l0 fun d l0 => (takeI l0 fun f l0 => (takeI l0 fun i l0 => (takeN 5 l0 fun l m l0 => (takeI l0 fun o l0 => (takeN 5 l0 fun p q l0 => (takeI l0 fun s l0 => (takeI l0 fun u l0 => (takeN 5 l0 fun v w l0 => (takeN 5 l0 fun y z l0 => (takeS 24 l0 fun a0 a1 l0 => (takeI l0 fun a2 l0 => (takeI l0 fun a3 l0 => (takeI l0 fun a4 l0 => (takeN 5 l0 fun a5 a6 l0 => (takeN 5 l0 fun a7 a8 l0 => (takeI l0 fun a9 l0 => (takeI l0 fun b0 l0 => (takeN 5 l0 fun b1 b2 l0 => (takeN 5 l0 fun b3 b4 l0 => (takeS 24 l0 fun b5 b6 l0 => (takeI l0 fun b7 l0 => (takeI l0 fun b8 l0 => (takeI l0 fun b9 l0 => (takeN 5 l0 fun c0 c1 l0 => (takeN 5 l0 fun c2 c3 l0 => (takeI l0 fun c4 l0 => (takeI l0 fun c5 l0 => (takeN 5 l0 fun c6 c7 l0 => (takeN 5 l0 fun c8 c9 l0 => (takeS 24 l0 fun d0 d1 l0 => (takeS 24 l0 fun d2 d3 l0 => (takeI l0 fun d4 l0 => (takeS 83 l0 fun d5 d6 l0 => (takeS 54 l0 fun d7 d8 l0 => (takeI l0 fun d9 l0 => (takeI l0 fun e0 l0 => (takeN 5 l0 fun e1 e2 l0 => (takeN 5 l0 fun e3 e4 l0 => (takeS 24 l0 fun e5 e6 l0 => (takeI l0 fun e7 l0 => (takeI l0 fun e8 l0 => (takeI l0 fun e9 l0 => (takeN 5 l0 fun f0 f1 l0 => (takeS 24 l0 fun f2 f3 l0 => (takeE l0 (takeI l1 fun f4 l1 => (takeI l1 fun f5 l1 => (takeI l1 fun f6 l1 => (takeI l1 fun f7 l1 => (takeI l1 fun f8 l1 => (takeN 5 l1 fun f9 g0 l1 => (takeI l1 fun g1 l1 => (takeN 5 l1 fun g2 g3 l1 => (takeI l1 fun g4 l1 => (takeI l1 fun g5 l1 => (takeN 5 l1 fun g6 g7 l1 => (takeN 5 l1 fun g8 g9 l1 => (takeS 24 l1 fun h0 h1 l1 => (takeI l1 fun h2 l1 => (takeI l1 fun h3 l1 => (takeI l1 fun h4 l1 => (takeN 5 l1 fun h5 h6 l1 => (takeN 5 l1 fun h7 h8 l1 => (takeI l1 fun h9 l1 => (takeI l1 fun i0 l1 => (takeN 5 l1 fun i1 i2 l1 => (takeN 5 l1 fun i3 i4 l1 => (takeS 24 l1 fun i5 i6 l1 => (takeI l1 fun i7 l1 => (takeI l1 fun i8 l1 => (takeI l1 fun i9 l1 => (takeN 5 l1 fun j0 j1 l1 => (takeN 5 l1 fun j2 j3 l1 => (takeI l1 fun j4 l1 => (takeI l1 fun j5 l1 => (takeN 5 l1 fun j6 j7 l1 => (takeN 5 l1 fun j8 j9 l1 => (takeS 24 l1 fun l2 l3 l1 => (takeS 24 l1 fun l4 l5 l1 => (takeI l1 fun l6 l1 => (takeS 83 l1 fun l7 l8 l1 => (takeS 54 l1 fun l9 m0 l1 => (takeI l1 fun m1 l1 => (takeI l1 fun m2 l1 => (takeN 5 l1 fun m3 m4 l1 => (takeN 5 l1 fun m5 m6 l1 => (takeS 24 l1 fun m7 m8 l1 => (takeI l1 fun m9 l1 => (takeI l1 fun n0 l1 => (takeI l1 fun n1 l1 => (takeN 5 l1 fun n2 n3 l1 => (takeS 24 l1 fun n4 n5 l1 => (takeE l1 ⟨YaA.f k b c d f i l m o p q s u v w y z a0 a1 a2 a3 a4 a5 a6 a7 a8 a9 b0 b1 b2 b3 b4 b5 b6 b7 b8 b9 c0 c1 c2 c3 c4 c5 c6 c7 c8 c9 d0 d1 d2 d3 d4 d5 d6 d7 d8 d9 e0 e1 e2 e3 e4 e5 e6 e7 e8 e9 f0 f1 f2 f3 f4 f5 f6 f7 f8 f9 g0 g1 g2 g3 g4 g5 g6 g7 g8 g9 h0 h1 h2 h3 h4 h5 h6 h7 h8 h9 i0 i1 i2 i3 i4 i5 i6 i7 i8 i9 j0 j1 j2 j3 j4 j5 j6 j7 j8 j9 l2 l3 l4 l5 l6 l7 l8 l9 m0 m1 m2 m3 m4 m5 m6 m7 m8 m9 n0 n1 n2 n3 n4 n5, YaA.enc⟩))))))))))))))))))))))))))))))))))))))))))))))))))))))))))))))))))))))))))))))))))))))))))))))))
 | _ => Ans.no
set_option maxHeartbeats 0 in
set_option maxRecDepth 100000 in
theorem YaA.eq (k b c d f i l m o p q s u v w y z a0 a1 a2 a3 a4 a5 a6 a7 a8 a9 b0 b1 b2 b3 b4 b5 b6 b7 b8 b9 c0 c1 c2 c3 c4 c5 c6 c7 c8 c9 d0 d1 d2 d3 d4 d5 d6 d7 d8 d9 e0 e1 e2 e3 e4 e5 e6 e7 e8 e9 f0 f1 f2 f3 f4 f5 f6 f7 f8 f9 g0 g1 g2 g3 g4 g5 g6 g7 g8 g9 h0 h1 h2 h3 h4 h5 h6 h7 h8 h9 i0 i1 i2 i3 i4 i5 i6 i7 i8 i9 j0 j1 j2 j3 j4 j5 j6 j7 j8 j9 l2 l3 l4 l5 l6 l7 l8 l9 m0 m1 m2 m3 m4 m5 m6 m7 m8 m9 n0 n1 n2 n3 n4 n5) : answer Tryz.prog (tb [Yaz.F]) 100000 [] [] Tryz.f24 (k + 1) [.v (.agg ((.int .i64 b) :: (.int .i64 c) :: (.int .i64 d) :: (.int .i64 f) :: (.int .i64 i) :: (.nums 5 .u8 l m) :: (.int .i64 o) :: (.nums 5 .u8 p q) :: (.int .i64 s) :: (.int .i64 u) :: (.nums 5 .u8 v w) :: (.nums 5 .u8 y z) :: (.sl 24 a0 a1) :: (.int .i64 a2) :: (.int .i64 a3) :: (.int .i64 a4) :: (.nums 5 .u8 a5 a6) :: (.nums 5 .u8 a7 a8) :: (.int .i64 a9) :: (.int .i64 b0) :: (.nums 5 .u8 b1 b2) :: (.nums 5 .u8 b3 b4) :: (.sl 24 b5 b6) :: (.int .i64 b7) :: (.int .i64 b8) :: (.int .i64 b9) :: (.nums 5 .u8 c0 c1) :: (.nums 5 .u8 c2 c3) :: (.int .i64 c4) :: (.int .i64 c5) :: (.nums 5 .u8 c6 c7) :: (.nums 5 .u8 c8 c9) :: (.sl 24 d0 d1) :: (.sl 24 d2 d3) :: (.int .i64 d4) :: (.sl 83 d5 d6) :: (.sl 54 d7 d8) :: (.int .i64 d9) :: (.int .i64 e0) :: (.nums 5 .u8 e1 e2) :: (.nums 5 .u8 e3 e4) :: (.sl 24 e5 e6) :: (.int .i64 e7) :: (.int .i64 e8) :: (.int .i64 e9) :: (.nums 5 .u8 f0 f1) :: (.sl 24 f2 f3) :: [])), .v (.agg ((.int .i64 f4) :: (.int .i64 f5) :: (.int .i64 f6) :: (.int .i64 f7) :: (.int .i64 f8) :: (.nums 5 .u8 f9 g0) :: (.int .i64 g1) :: (.nums 5 .u8 g2 g3) :: (.int .i64 g4) :: (.int .i64 g5) :: (.nums 5 .u8 g6 g7) :: (.nums 5 .u8 g8 g9) :: (.sl 24 h0 h1) :: (.int .i64 h2) :: (.int .i64 h3) :: (.int .i64 h4) :: (.nums 5 .u8 h5 h6) :: (.nums 5 .u8 h7 h8) :: (.int .i64 h9) :: (.int .i64 i0) :: (.nums 5 .u8 i1 i2) :: (.nums 5 .u8 i3 i4) :: (.sl 24 i5 i6) :: (.int .i64 i7) :: (.int .i64 i8) :: (.int .i64 i9) :: (.nums 5 .u8 j0 j1) :: (.nums 5 .u8 j2 j3) :: (.int .i64 j4) :: (.int .i64 j5) :: (.nums 5 .u8 j6 j7) :: (.nums 5 .u8 j8 j9) :: (.sl 24 l2 l3) :: (.sl 24 l4 l5) :: (.int .i64 l6) :: (.sl 83 l7 l8) :: (.sl 54 l9 m0) :: (.int .i64 m1) :: (.int .i64 m2) :: (.nums 5 .u8 m3 m4) :: (.nums 5 .u8 m5 m6) :: (.sl 24 m7 m8) :: (.int .i64 m9) :: (.int .i64 n0) :: (.int .i64 n1) :: (.nums 5 .u8 n2 n3) :: (.sl 24 n4 n5) :: []))] = (YaA.f (k + 1) b c d f i l m o p q s u v w y z a0 a1 a2 a3 a4 a5 a6 a7 a8 a9 b0 b1 b2 b3 b4 b5 b6 b7 b8 b9 c0 c1 c2 c3 c4 c5 c6 c7 c8 c9 d0 d1 d2 d3 d4 d5 d6 d7 d8 d9 e0 e1 e2 e3 e4 e5 e6 e7 e8 e9 f0 f1 f2 f3 f4 f5 f6 f7 f8 f9 g0 g1 g2 g3 g4 g5 g6 g7 g8 g9 h0 h1 h2 h3 h4 h5 h6 h7 h8 h9 i0 i1 i2 i3 i4 i5 i6 i7 i8 i9 j0 j1 j2 j3 j4 j5 j6 j7 j8 j9 l2 l3 l4 l5 l6 l7 l8 l9 m0 m1 m2 m3 m4 m5 m6 m7 m8 m9 n0 n1 n2 n3 n4 n5).map YaA.enc := by
 simp only [YaA.f.eq_2, mc, mb, ms, mn, -eq_self]; show _ = _; kernel_rfl
theorem YaA.sound (k : Nat) : SoundF Tryz.prog 24 (fun a => (YaA.ans k a).val) := by
 refine qw (fun args res h => ?_) (fun t n => rfl)
 unfold YaA.ans at h
 dsimp only at h
 split at h
 ·
  repeat first | (obtain ⟨_, _, e, g⟩ := qfj h; clear h; subst e; have h := g; clear g) | (obtain ⟨_, _, _, e, g⟩ := qff h; clear h; subst e; have h := g; clear g) | (obtain ⟨_, _, _, e, g⟩ := qfn h; clear h; subst e; have h := g; clear g) | (obtain ⟨e, g⟩ := qft h; clear h; subst e; have h := g; clear g)
  cases k with
  | zero => cases h
  | succ k =>
   unfold Ans.val at h
   rw [<- YaA.eq] at h
   exact qB mixed Tryz.func24 _ _ _ (k + 1) (fun j _ => qu (qbG j [Yaz.F])) _ _ h
 ·exact (Ans.no_val h).elim
set_option maxHeartbeats 0 in
set_option maxRecDepth 100000 in
def YaA.F : Fn := ⟨24, YaA.ans, YaA.sound⟩
def XT.l0 : Nat -> Bool -> (List T) -> Bool -> (List T) -> Int -> Option Bool
 | 0, _, _, _, _, _ => none
 | k + 1, h, b, i, c, a => cond (decide (a < ((b).length : Int))) (cond (decide ((0 : Int) <= a)) (cond (decide (a < ((b).length : Int))) (cond (decide ((0 : Int) <= a)) (cond (decide (a < ((c).length : Int))) ((YaA.f k (((((b).getD (a).toNat .bad).cells.getD 0 .bad)).toInt) (((((b).getD (a).toNat .bad).cells.getD 1 .bad)).toInt) (((((b).getD (a).toNat .bad).cells.getD 2 .bad)).toInt) (((((b).getD (a).toNat .bad).cells.getD 3 .bad)).toInt) (((((b).getD (a).toNat .bad).cells.getD 4 .bad)).toInt) (((((b).getD (a).toNat .bad).cells.getD 5 .bad)).isNil) (((((b).getD (a).toNat .bad).cells.getD 5 .bad)).toNums) (((((b).getD (a).toNat .bad).cells.getD 6 .bad)).toInt) (((((b).getD (a).toNat .bad).cells.getD 7 .bad)).isNil) (((((b).getD (a).toNat .bad).cells.getD 7 .bad)).toNums) (((((b).getD (a).toNat .bad).cells.getD 8 .bad)).toInt) (((((b).getD (a).toNat .bad).cells.getD 9 .bad)).toInt) (((((b).getD (a).toNat .bad).cells.getD 10 .bad)).isNil) (((((b).getD (a).toNat .bad).cells.getD 10 .bad)).toNums) (((((b).getD (a).toNat .bad).cells.getD 11 .bad)).isNil) (((((b).getD (a).toNat .bad).cells.getD 11 .bad)).toNums) (((((b).getD (a).toNat .bad).cells.getD 12 .bad)).isNil) (((((b).getD (a).toNat .bad).cells.getD 12 .bad)).toList) (((((b).getD (a).toNat .bad).cells.getD 13 .bad)).toInt) (((((b).getD (a).toNat .bad).cells.getD 14 .bad)).toInt) (((((b).getD (a).toNat .bad).cells.getD 15 .bad)).toInt) (((((b).getD (a).toNat .bad).cells.getD 16 .bad)).isNil) (((((b).getD (a).toNat .bad).cells.getD 16 .bad)).toNums) (((((b).getD (a).toNat .bad).cells.getD 17 .bad)).isNil) (((((b).getD (a).toNat .bad).cells.getD 17 .bad)).toNums) (((((b).getD (a).toNat .bad).cells.getD 18 .bad)).toInt) (((((b).getD (a).toNat .bad).cells.getD 19 .bad)).toInt) (((((b).getD (a).toNat .bad).cells.getD 20 .bad)).isNil) (((((b).getD (a).toNat .bad).cells.getD 20 .bad)).toNums) (((((b).getD (a).toNat .bad).cells.getD 21 .bad)).isNil) (((((b).getD (a).toNat .bad).cells.getD 21 .bad)).toNums) (((((b).getD (a).toNat .bad).cells.getD 22 .bad)).isNil) (((((b).getD (a).toNat .bad).cells.getD 22 .bad)).toList) (((((b).getD (a).toNat .bad).cells.getD 23 .bad)).toInt) (((((b).getD (a).toNat .bad).cells.getD 24 .bad)).toInt) (((((b).getD (a).toNat .bad).cells.getD 25 .bad)).toInt) (((((b).getD (a).toNat .bad).cells.getD 26 .bad)).isNil) (((((b).getD (a).toNat .bad).cells.getD 26 .bad)).toNums) (((((b).getD (a).toNat .bad).cells.getD 27 .bad)).isNil) (((((b).getD (a).toNat .bad).cells.getD 27 .bad)).toNums) (((((b).getD (a).toNat .bad).cells.getD 28 .bad)).toInt) (((((b).getD (a).toNat .bad).cells.getD 29 .bad)).toInt) (((((b).getD (a).toNat .bad).cells.getD 30 .bad)).isNil) (((((b).getD (a).toNat .bad).cells.getD 30 .bad)).toNums) (((((b).getD (a).toNat .bad).cells.getD 31 .bad)).isNil) (((((b).getD (a).toNat .bad).cells.getD 31 .bad)).toNums) (((((b).getD (a).toNat .bad).cells.getD 32 .bad)).isNil) (((((b).getD (a).toNat .bad).cells.getD 32 .bad)).toList) (((((b).getD (a).toNat .bad).cells.getD 33 .bad)).isNil) (((((b).getD (a).toNat .bad).cells.getD 33 .bad)).toList) (((((b).getD (a).toNat .bad).cells.getD 34 .bad)).toInt) (((((b).getD (a).toNat .bad).cells.getD 35 .bad)).isNil) (((((b).getD (a).toNat .bad).cells.getD 35 .bad)).toList) (((((b).getD (a).toNat .bad).cells.getD 36 .bad)).isNil) (((((b).getD (a).toNat .bad).cells.getD 36 .bad)).toList) (((((b).getD (a).toNat .bad).cells.getD 37 .bad)).toInt) (((((b).getD (a).toNat .bad).cells.getD 38 .bad)).toInt) (((((b).getD (a).toNat .bad).cells.getD 39 .bad)).isNil) (((((b).getD (a).toNat .bad).cells.getD 39 .bad)).toNums) (((((b).getD (a).toNat .bad).cells.getD 40 .bad)).isNil) (((((b).getD (a).toNat .bad).cells.getD 40 .bad)).toNums) (((((b).getD (a).toNat .bad).cells.getD 41 .bad)).isNil) (((((b).getD (a).toNat .bad).cells.getD 41 .bad)).toList) (((((b).getD (a).toNat .bad).cells.getD 42 .bad)).toInt) (((((b).getD (a).toNat .bad).cells.getD 43 .bad)).toInt) (((((b).getD (a).toNat .bad).cells.getD 44 .bad)).toInt) (((((b).getD (a).toNat .bad).cells.getD 45 .bad)).isNil) (((((b).getD (a).toNat .bad).cells.getD 45 .bad)).toNums) (((((b).getD (a).toNat .bad).cells.getD 46 .bad)).isNil) (((((b).getD (a).toNat .bad).cells.getD 46 .bad)).toList) (((((c).getD (a).toNat .bad).cells.getD 0 .bad)).toInt) (((((c).getD (a).toNat .bad).cells.getD 1 .bad)).toInt) (((((c).getD (a).toNat .bad).cells.getD 2 .bad)).toInt) (((((c).getD (a).toNat .bad).cells.getD 3 .bad)).toInt) (((((c).getD (a).toNat .bad).cells.getD 4 .bad)).toInt) (((((c).getD (a).toNat .bad).cells.getD 5 .bad)).isNil) (((((c).getD (a).toNat .bad).cells.getD 5 .bad)).toNums) (((((c).getD (a).toNat .bad).cells.getD 6 .bad)).toInt) (((((c).getD (a).toNat .bad).cells.getD 7 .bad)).isNil) (((((c).getD (a).toNat .bad).cells.getD 7 .bad)).toNums) (((((c).getD (a).toNat .bad).cells.getD 8 .bad)).toInt) (((((c).getD (a).toNat .bad).cells.getD 9 .bad)).toInt) (((((c).getD (a).toNat .bad).cells.getD 10 .bad)).isNil) (((((c).getD (a).toNat .bad).cells.getD 10 .bad)).toNums) (((((c).getD (a).toNat .bad).cells.getD 11 .bad)).isNil) (((((c).getD (a).toNat .bad).cells.getD 11 .bad)).toNums) (((((c).getD (a).toNat .bad).cells.getD 12 .bad)).isNil) (((((c).getD (a).toNat .bad).cells.getD 12 .bad)).toList) (((((c).getD (a).toNat .bad).cells.getD 13 .bad)).toInt) (((((c).getD (a).toNat .bad).cells.getD 14 .bad)).toInt) (((((c).getD (a).toNat .bad).cells.getD 15 .bad)).toInt) (((((c).getD (a).toNat .bad).cells.getD 16 .bad)).isNil) (((((c).getD (a).toNat .bad).cells.getD 16 .bad)).toNums) (((((c).getD (a).toNat .bad).cells.getD 17 .bad)).isNil) (((((c).getD (a).toNat .bad).cells.getD 17 .bad)).toNums) (((((c).getD (a).toNat .bad).cells.getD 18 .bad)).toInt) (((((c).getD (a).toNat .bad).cells.getD 19 .bad)).toInt) (((((c).getD (a).toNat .bad).cells.getD 20 .bad)).isNil) (((((c).getD (a).toNat .bad).cells.getD 20 .bad)).toNums) (((((c).getD (a).toNat .bad).cells.getD 21 .bad)).isNil) (((((c).getD (a).toNat .bad).cells.getD 21 .bad)).toNums) (((((c).getD (a).toNat .bad).cells.getD 22 .bad)).isNil) (((((c).getD (a).toNat .bad).cells.getD 22 .bad)).toList) (((((c).getD (a).toNat .bad).cells.getD 23 .bad)).toInt) (((((c).getD (a).toNat .bad).cells.getD 24 .bad)).toInt) (((((c).getD (a).toNat .bad).cells.getD 25 .bad)).toInt) (((((c).getD (a).toNat .bad).cells.getD 26 .bad)).isNil) (((((c).getD (a).toNat .bad).cells.getD 26 .bad)).toNums) (((((c).getD (a).toNat .bad).cells.getD 27 .bad)).isNil) (((((c).getD (a).toNat .bad).cells.getD 27 .bad)).toNums) (((((c).getD (a).toNat .bad).cells.getD 28 .bad)).toInt) (((((c).getD (a).toNat .bad).cells.getD 29 .bad)).toInt) (((((c).getD (a).toNat .bad).cells.getD 30 .bad)).isNil) (((((c).getD (a).toNat .bad).cells.getD 30 .bad)).toNums) (((((c).getD (a).toNat .bad).cells.getD 31 .bad)).isNil) (((((c).getD (a).toNat .bad).cells.getD 31 .bad)).toNums) (((((c).getD (a).toNat .bad).cells.getD 32 .bad)).isNil) (((((c).getD (a).toNat .bad).cells.getD 32 .bad)).toList) (((((c).getD (a).toNat .bad).cells.getD 33 .bad)).isNil) (((((c).getD (a).toNat .bad).cells.getD 33 .bad)).toList) (((((c).getD (a).toNat .bad).cells.getD 34 .bad)).toInt) (((((c).getD (a).toNat .bad).cells.getD 35 .bad)).isNil) (((((c).getD (a).toNat .bad).cells.getD 35 .bad)).toList) (((((c).getD (a).toNat .bad).cells.getD 36 .bad)).isNil) (((((c).getD (a).toNat .bad).cells.getD 36 .bad)).toList) (((((c).getD (a).toNat .bad).cells.getD 37 .bad)).toInt) (((((c).getD (a).toNat .bad).cells.getD 38 .bad)).toInt) (((((c).getD (a).toNat .bad).cells.getD 39 .bad)).isNil) (((((c).getD (a).toNat .bad).cells.getD 39 .bad)).toNums) (((((c).getD (a).toNat .bad).cells.getD 40 .bad)).isNil) (((((c).getD (a).toNat .bad).cells.getD 40 .bad)).toNums) (((((c).getD (a).toNat .bad).cells.getD 41 .bad)).isNil) (((((c).getD (a).toNat .bad).cells.getD 41 .bad)).toList) (((((c).getD (a).toNat .bad).cells.getD 42 .bad)).toInt) (((((c).getD (a).toNat .bad).cells.getD 43 .bad)).toInt) (((((c).getD (a).toNat .bad).cells.getD 44 .bad)).toInt) (((((c).getD (a).toNat .bad).cells.getD 45 .bad)).isNil) (((((c).getD (a).toNat .bad).cells.getD 45 .bad)).toNums) (((((c).getD (a).toNat .bad).cells.getD 46 .bad)).isNil) (((((c).getD (a).toNat .bad).cells.getD 46 .bad)).toList)).bind fun j => cond (!j) (some false) (XT.l0 k h b i c (wrap64 (a + 1)))) (none)) (none)) (none)) (none)) (some true)
def XT.f : Nat -> Bool -> (List T) -> Bool -> (List T) -> Option Bool
 | 0, _, _, _, _ => none
 | k + 1, f, d, g, e => cond (!(decide (((d).length : Int) = ((e).length : Int)))) (some false) (XT.l0 k f d g e 0)
def XT.enc (r : Bool) : Res := ⟨[.vals false [((.bool r), true)]], []⟩
def XT.ans (k : Nat) : List Arg -> Ans
 | [.v (.sl 68 f d), .v (.sl 68 g e)] => ⟨XT.f k f d g e, XT.enc⟩
 | _ => Ans.no
def XT.cuts : List (Nat × Keep) := [(58, ⟨[(0, some []), (1, some []), (5, some [])], []⟩)]
noncomputable def XT.K0 : List Fr := framesAt [true, true, false, true, false] (bodyOf Tryz.f9 XT.cuts) []
def XT.N0 (h : Bool) (b : List T) (i : Bool) (c : List T) (a : Int) : St := stOf 27 27 2 [(0, .val ⟨(.sl 68 h b), [], false, none⟩), (1, .val ⟨(.sl 68 i c), [], false, none⟩), (5, vi a)] []
set_option maxHeartbeats 0 in
set_option maxRecDepth 100000 in
theorem XT.r (f) (d) (g) (e) (k) : (∀ h b i c a, rounds Tryz.prog (tb [YaA.F]) (finish Tryz.prog [] Tryz.f9 [.v (.sl 68 f d), .v (.sl 68 g e)]) 100000 k XT.K0 (XT.N0 h b i c a) = (XT.l0 k h b i c a).map XT.enc) := by
 induction k with
 | zero => intros <;> rfl
 | succ k ih =>
  have i0 := ih
  intros <;> simp only [XT.l0.eq_2, mc, mb, ms, mn, <- i0, -eq_self] <;> kernel_rfl
set_option maxHeartbeats 0 in
set_option maxRecDepth 100000 in
def XT.F : Fn := ⟨9, XT.ans, sd XT.ans Tryz.func9 [YaA.F] XT.cuts [] (fun k x => by unfold XT.ans; split; (right; rename_i f d g e; have i0 := XT.r f d g e k; change _ = Option.map XT.enc _; simp only [XT.f.eq_2, mc, mb, ms, mn, <- i0, -eq_self]; kernel_rfl); exact .inl rfl) (fun x => by unfold XT.ans; split <;> rfl)⟩
def YbY.f : Nat -> Int -> Bool -> (List Int) -> Int -> Bool -> (List Int) -> Option Bool
 | 0, _, _, _, _, _, _ => none
 | k + 1, a, b, c, d, e, f => cond (!(decide (a = d))) (some false) ((Xo.f k b c e f).bind fun g => cond (!g) (some false) (some true))
def YbY.enc (r : Bool) : Res := ⟨[.vals false [((.bool r), true)]], []⟩
def YbY.ans (k : Nat) : List Arg -> Ans
 | [.v (.agg [(.int .i64 a), (.nums 5 .u8 b c)]), .v (.agg [(.int .i64 d), (.nums 5 .u8 e f)])] => ⟨YbY.f k a b c d e f, YbY.enc⟩
 | _ => Ans.no
def YbY.F : Fn := ⟨18, YbY.ans, sd YbY.ans Tryz.func18 [Xo.F] [] [] (fun k x => by unfold YbY.ans; split; (right; change _ = Option.map YbY.enc _; simp only [YbY.f.eq_2, mc, mb, ms, mn, -eq_self]; kernel_rfl); exact .inl rfl) (fun x => by unfold YbY.ans; split <;> rfl)⟩
def Xe.l0 : Nat -> Bool -> (List Int) -> Int -> Int -> Option (Int × Bool × List Int)
 | 0, _, _, _, _ => none
 | k + 1, g, c, f, b => cond (decide (b < ((c).length : Int))) (cond (decide ((0 : Int) <= b)) (cond (decide (b < ((c).length : Int))) (Xe.l0 k g ((c).set (b).toNat ((f) % 256)) (wrap64 (f + 1)) (wrap64 (b + 1))) (none)) (none)) (some (f, g, c))
def Xe.f : Nat -> Bool -> (List Int) -> Int -> Option (Int × Bool × List Int)
 | 0, _, _, _ => none
 | k + 1, d, e, i => Xe.l0 k d e i 0
def Xe.enc (r : Int × Bool × List Int) : Res := ⟨[.vals false [((.int .i64 r.1), true)]], [[((.nums 5 .u8 r.2.1 r.2.2), true)]]⟩
def Xe.ans (k : Nat) : List Arg -> Ans
 | [.own (.nums 5 .u8 d e), .v (.int .i64 i)] => ⟨Xe.f k d e i, Xe.enc⟩
 | _ => Ans.no
def Xe.cuts : List (Nat × Keep) := [(26, ⟨[(0, none), (1, some []), (5, some [])], []⟩)]
noncomputable def Xe.K0 : List Fr := framesAt [true, false, true, false] (bodyOf Tryz.f11 Xe.cuts) []
def Xe.N0 (g : Bool) (c : List Int) (f : Int) (b : Int) : St := stOf 20 20 2 [(0, .val ⟨(.nums 5 .u8 g c), [.h 0], true, some (.h 0)⟩), (1, vi f), (5, vi b)] []
theorem Xe.r (d) (e) (k) : (∀ g c f b, rounds Tryz.prog (tb []) (finishM Tryz.prog Tryz.f11 (.nums 5 .u8 d e)) 100000 k Xe.K0 (Xe.N0 g c f b) = (Xe.l0 k g c f b).map Xe.enc) := by
 induction k with
 | zero => intros <;> rfl
 | succ k ih =>
  have i0 := ih
  intros <;> simp only [Xe.l0.eq_2, mc, mb, ms, mn, <- i0, -eq_self] <;> kernel_rfl
theorem Xe.eq (k d e i) : answerM Tryz.prog (tb []) 100000 Xe.cuts  Tryz.f11 (k + 1) [.own (.nums 5 .u8 d e), .v (.int .i64 i)] = (Xe.f (k + 1) d e i).map Xe.enc := by
 have i0 := Xe.r d e k; simp only [Xe.f.eq_2, mc, mb, ms, mn, <- i0, -eq_self]; show _ = _; kernel_rfl
theorem Xe.sound (k : Nat) : SoundF Tryz.prog 11 (fun a => (Xe.ans k a).val) := by
 refine qat (fun args hne => ?_) (fun t n l m h => ?_)
 ·unfold Xe.ans
  split
  ·exact (hne _ _ rfl).elim
  ·rfl
 unfold Xe.ans at h
 dsimp only at h
 split at h
 ·rename_i heq
  cases heq
  cases k with
  | zero => cases h
  | succ k =>
   unfold Ans.val at h
   rw [<- Xe.eq] at h
   exact qY (Cs := tb []) mixed Tryz.func11 100000 Xe.cuts (k + 1) (fun j _ => qu (qaL)) _ _ _ _ h
 ·exact (Ans.no_val h).elim
def Xe.F : Fn := ⟨11, Xe.ans, Xe.sound⟩
def YbP.f : Nat -> Int -> Bool -> (List Int) -> Int -> Option (Int × Int × Bool × List Int)
 | 0, _, _, _, _ => none
 | k + 1, b, c, d, e => (Xe.f k c d e).bind fun f => some (f.1, b, f.2.1, f.2.2)
def YbP.enc (r : Int × Int × Bool × List Int) : Res := ⟨[.vals false [((.int .i64 r.1), true)]], [[((.int .i64 r.2.1), true), ((.nums 5 .u8 r.2.2.1 r.2.2.2), true)]]⟩
def YbP.ans (k : Nat) : List Arg -> Ans
 | [.own (.agg [(.int .i64 b), (.nums 5 .u8 c d)]), .v (.int .i64 e)] => ⟨YbP.f k b c d e, YbP.enc⟩
 | _ => Ans.no
theorem YbP.eq (k b c d e) : answerM Tryz.prog (tb [Xe.F]) 100000 []  Tryz.f19 (k + 1) [.own (.agg [(.int .i64 b), (.nums 5 .u8 c d)]), .v (.int .i64 e)] = (YbP.f (k + 1) b c d e).map YbP.enc := by
 simp only [YbP.f.eq_2, mc, mb, ms, mn, -eq_self]; show _ = _; kernel_rfl
theorem YbP.sound (k : Nat) : SoundF Tryz.prog 19 (fun a => (YbP.ans k a).val) := by
 refine qat (fun args hne => ?_) (fun t n l m h => ?_)
 ·unfold YbP.ans
  split
  ·exact (hne _ _ rfl).elim
  ·rfl
 unfold YbP.ans at h
 dsimp only at h
 split at h
 ·rename_i heq
  cases heq
  cases k with
  | zero => cases h
  | succ k =>
   unfold Ans.val at h
   rw [<- YbP.eq] at h
   exact qY (Cs := tb [Xe.F]) mixed Tryz.func19 100000 [] (k + 1) (fun j _ => qu (qbG j [Xe.F])) _ _ _ _ h
 ·exact (Ans.no_val h).elim
def YbP.F : Fn := ⟨19, YbP.ans, YbP.sound⟩
def Xk.l0 : Nat -> Bool -> (List T) -> Int -> Int -> Option (Int × Bool × List T)
 | 0, _, _, _, _ => none
 | k + 1, f, c, g, b => cond (decide (b < ((c).length : Int))) (cond (decide ((0 : Int) <= b)) (cond (decide (b < ((c).length : Int))) ((Xe.f k (((((c).getD (b).toNat .bad).cells.getD 0 .bad)).isNil) (((((c).getD (b).toNat .bad).cells.getD 0 .bad)).toNums) g).bind fun o => Xk.l0 k f ((c).set (b).toNat (.nums 5 .u8 o.2.1 o.2.2)) o.1 (wrap64 (b + 1))) (none)) (none)) (some (g, f, c))
def Xk.f : Nat -> Bool -> (List T) -> Int -> Option (Int × Bool × List T)
 | 0, _, _, _ => none
 | k + 1, d, e, i => Xk.l0 k d e i 0
def Xk.enc (r : Int × Bool × List T) : Res := ⟨[.vals false [((.int .i64 r.1), true)]], [[((.sl 24 r.2.1 r.2.2), true)]]⟩
def Xk.ans (k : Nat) : List Arg -> Ans
 | [.own (.sl 24 d e), .v (.int .i64 i)] => ⟨Xk.f k d e i, Xk.enc⟩
 | _ => Ans.no
def Xk.cuts : List (Nat × Keep) := [(26, ⟨[(0, none), (1, some []), (5, some [])], []⟩)]
noncomputable def Xk.K0 : List Fr := framesAt [true, false, true, false] (bodyOf Tryz.f25 Xk.cuts) []
def Xk.N0 (f : Bool) (c : List T) (g : Int) (b : Int) : St := stOf 19 19 2 [(0, .val ⟨(.sl 24 f c), [.h 0], true, some (.h 0)⟩), (1, vi g), (5, vi b)] []
theorem Xk.r (d) (e) (k) : (∀ f c g b, rounds Tryz.prog (tb [Xe.F]) (finishM Tryz.prog Tryz.f25 (.sl 24 d e)) 100000 k Xk.K0 (Xk.N0 f c g b) = (Xk.l0 k f c g b).map Xk.enc) := by
 induction k with
 | zero => intros <;> rfl
 | succ k ih =>
  have i0 := ih
  intros <;> simp only [Xk.l0.eq_2, mc, mb, ms, mn, <- i0, -eq_self] <;> kernel_rfl
theorem Xk.eq (k d e i) : answerM Tryz.prog (tb [Xe.F]) 100000 Xk.cuts  Tryz.f25 (k + 1) [.own (.sl 24 d e), .v (.int .i64 i)] = (Xk.f (k + 1) d e i).map Xk.enc := by
 have i0 := Xk.r d e k; simp only [Xk.f.eq_2, mc, mb, ms, mn, <- i0, -eq_self]; show _ = _; kernel_rfl
theorem Xk.sound (k : Nat) : SoundF Tryz.prog 25 (fun a => (Xk.ans k a).val) := by
 refine qat (fun args hne => ?_) (fun t n l m h => ?_)
 ·unfold Xk.ans
  split
  ·exact (hne _ _ rfl).elim
  ·rfl
 unfold Xk.ans at h
 dsimp only at h
 split at h
 ·rename_i heq
  cases heq
  cases k with
  | zero => cases h
  | succ k =>
   unfold Ans.val at h
   rw [<- Xk.eq] at h
   exact qY (Cs := tb [Xe.F]) mixed Tryz.func25 100000 Xk.cuts (k + 1) (fun j _ => qu (qbG j [Xe.F])) _ _ _ _ h
 ·exact (Ans.no_val h).elim
def Xk.F : Fn := ⟨25, Xk.ans, Xk.sound⟩
def Xp.y1 (c : List T) (d : Int) (b : Int) : List T := ((((c).set (b).toNat (.agg [(.int .i64 d), (.int .i64 ((((c).getD (b).toNat .bad).cells.getD 1 .bad)).toInt), (.nums 5 .u8 ((((c).getD (b).toNat .bad).cells.getD 2 .bad)).isNil ((((c).getD (b).toNat .bad).cells.getD 2 .bad)).toNums)]))).set (b).toNat (.agg [(.int .i64 ((((((c).set (b).toNat (.agg [(.int .i64 d), (.int .i64 ((((c).getD (b).toNat .bad).cells.getD 1 .bad)).toInt), (.nums 5 .u8 ((((c).getD (b).toNat .bad).cells.getD 2 .bad)).isNil ((((c).getD (b).toNat .bad).cells.getD 2 .bad)).toNums)]))).getD (b).toNat .bad).cells.getD 0 .bad)).toInt), (.int .i64 (wrap64 (d + 1))), (.nums 5 .u8 ((((((c).set (b).toNat (.agg [(.int .i64 d), (.int .i64 ((((c).getD (b).toNat .bad).cells.getD 1 .bad)).toInt), (.nums 5 .u8 ((((c).getD (b).toNat .bad).cells.getD 2 .bad)).isNil ((((c).getD (b).toNat .bad).cells.getD 2 .bad)).toNums)]))).getD (b).toNat .bad).cells.getD 2 .bad)).isNil ((((((c).set (b).toNat (.agg [(.int .i64 d), (.int .i64 ((((c).getD (b).toNat .bad).cells.getD 1 .bad)).toInt), (.nums 5 .u8 ((((c).getD (b).toNat .bad).cells.getD 2 .bad)).isNil ((((c).getD (b).toNat .bad).cells.getD 2 .bad)).toNums)]))).getD (b).toNat .bad).cells.getD 2 .bad)).toNums)]))
def Xp.l0 : Nat -> Bool -> (List T) -> Int -> Int -> Option (Int × Bool × List T)
 | 0, _, _, _, _ => none
 | k + 1, g, c, d, b => cond (decide (b < ((c).length : Int))) (cond (decide ((0 : Int) <= b)) (cond (decide (b < ((c).length : Int))) (cond (decide ((0 : Int) <= b)) (cond (decide (b < ((((c).set (b).toNat (.agg [(.int .i64 d), (.int .i64 ((((c).getD (b).toNat .bad).cells.getD 1 .bad)).toInt), (.nums 5 .u8 ((((c).getD (b).toNat .bad).cells.getD 2 .bad)).isNil ((((c).getD (b).toNat .bad).cells.getD 2 .bad)).toNums)]))).length : Int))) (cond (decide ((0 : Int) <= b)) (cond (decide (b < (((Xp.y1 c d b)).length : Int))) ((Xe.f k ((((((Xp.y1 c d b)).getD (b).toNat .bad).cells.getD 2 .bad)).isNil) ((((((Xp.y1 c d b)).getD (b).toNat .bad).cells.getD 2 .bad)).toNums) (wrap64 ((wrap64 (d + 1)) + 1))).bind fun o => Xp.l0 k g (((Xp.y1 c d b)).set (b).toNat (.agg [(.int .i64 (((((Xp.y1 c d b)).getD (b).toNat .bad).cells.getD 0 .bad)).toInt), (.int .i64 (((((Xp.y1 c d b)).getD (b).toNat .bad).cells.getD 1 .bad)).toInt), (.nums 5 .u8 o.2.1 o.2.2)])) o.1 (wrap64 (b + 1))) (none)) (none)) (none)) (none)) (none)) (none)) (some (d, g, c))
def Xp.f : Nat -> Bool -> (List T) -> Int -> Option (Int × Bool × List T)
 | 0, _, _, _ => none
 | k + 1, e, f, i => Xp.l0 k e f i 0
def Xp.enc (r : Int × Bool × List T) : Res := ⟨[.vals false [((.int .i64 r.1), true)]], [[((.sl 83 r.2.1 r.2.2), true)]]⟩
def Xp.ans (k : Nat) : List Arg -> Ans
 | [.own (.sl 83 e f), .v (.int .i64 i)] => ⟨Xp.f k e f i, Xp.enc⟩
 | _ => Ans.no
def Xp.cuts : List (Nat × Keep) := [(26, ⟨[(0, none), (1, some []), (5, some [])], []⟩)]
noncomputable def Xp.K0 : List Fr := framesAt [true, false, true, false] (bodyOf Tryz.f26 Xp.cuts) []
def Xp.N0 (g : Bool) (c : List T) (d : Int) (b : Int) : St := stOf 34 34 2 [(0, .val ⟨(.sl 83 g c), [.h 0], true, some (.h 0)⟩), (1, vi d), (5, vi b)] []
theorem Xp.r (e) (f) (k) : (∀ g c d b, rounds Tryz.prog (tb [Xe.F]) (finishM Tryz.prog Tryz.f26 (.sl 83 e f)) 100000 k Xp.K0 (Xp.N0 g c d b) = (Xp.l0 k g c d b).map Xp.enc) := by
 induction k with
 | zero => intros <;> rfl
 | succ k ih =>
  have i0 := ih
  intros <;> simp only [Xp.l0.eq_2, mc, mb, ms, mn, <- i0, -eq_self] <;> kernel_rfl
theorem Xp.eq (k e f i) : answerM Tryz.prog (tb [Xe.F]) 100000 Xp.cuts  Tryz.f26 (k + 1) [.own (.sl 83 e f), .v (.int .i64 i)] = (Xp.f (k + 1) e f i).map Xp.enc := by
 have i0 := Xp.r e f k; simp only [Xp.f.eq_2, mc, mb, ms, mn, <- i0, -eq_self]; show _ = _; kernel_rfl
theorem Xp.sound (k : Nat) : SoundF Tryz.prog 26 (fun a => (Xp.ans k a).val) := by
 refine qat (fun args hne => ?_) (fun t n l m h => ?_)
 ·unfold Xp.ans
  split
  ·exact (hne _ _ rfl).elim
  ·rfl
 unfold Xp.ans at h
 dsimp only at h
 split at h
 ·rename_i heq
  cases heq
  cases k with
  | zero => cases h
  | succ k =>
   unfold Ans.val at h
   rw [<- Xp.eq] at h
   exact qY (Cs := tb [Xe.F]) mixed Tryz.func26 100000 Xp.cuts (k + 1) (fun j _ => qu (qbG j [Xe.F])) _ _ _ _ h
 ·exact (Ans.no_val h).elim
def Xp.F : Fn := ⟨26, Xp.ans, Xp.sound⟩
def Xd.y1 (c : List T) (d : Int) (b : Int) : List T := ((c).set (b).toNat (.agg [(.int .i64 d), (.int .i64 ((((c).getD (b).toNat .bad).cells.getD 1 .bad)).toInt), (.int .i64 ((((c).getD (b).toNat .bad).cells.getD 2 .bad)).toInt), (.nums 5 .u8 ((((c).getD (b).toNat .bad).cells.getD 3 .bad)).isNil ((((c).getD (b).toNat .bad).cells.getD 3 .bad)).toNums), (.nums 5 .u8 ((((c).getD (b).toNat .bad).cells.getD 4 .bad)).isNil ((((c).getD (b).toNat .bad).cells.getD 4 .bad)).toNums), (.int .i64 ((((c).getD (b).toNat .bad).cells.getD 5 .bad)).toInt), (.int .i64 ((((c).getD (b).toNat .bad).cells.getD 6 .bad)).toInt), (.nums 5 .u8 ((((c).getD (b).toNat .bad).cells.getD 7 .bad)).isNil ((((c).getD (b).toNat .bad).cells.getD 7 .bad)).toNums), (.nums 5 .u8 ((((c).getD (b).toNat .bad).cells.getD 8 .bad)).isNil ((((c).getD (b).toNat .bad).cells.getD 8 .bad)).toNums), (.sl 24 ((((c).getD (b).toNat .bad).cells.getD 9 .bad)).isNil ((((c).getD (b).toNat .bad).cells.getD 9 .bad)).toList)]))
def Xd.y2 (c : List T) (d : Int) (b : Int) : List T := (((Xd.y1 c d b)).set (b).toNat (.agg [(.int .i64 (((((Xd.y1 c d b)).getD (b).toNat .bad).cells.getD 0 .bad)).toInt), (.int .i64 (wrap64 (d + 1))), (.int .i64 (((((Xd.y1 c d b)).getD (b).toNat .bad).cells.getD 2 .bad)).toInt), (.nums 5 .u8 (((((Xd.y1 c d b)).getD (b).toNat .bad).cells.getD 3 .bad)).isNil (((((Xd.y1 c d b)).getD (b).toNat .bad).cells.getD 3 .bad)).toNums), (.nums 5 .u8 (((((Xd.y1 c d b)).getD (b).toNat .bad).cells.getD 4 .bad)).isNil (((((Xd.y1 c d b)).getD (b).toNat .bad).cells.getD 4 .bad)).toNums), (.int .i64 (((((Xd.y1 c d b)).getD (b).toNat .bad).cells.getD 5 .bad)).toInt), (.int .i64 (((((Xd.y1 c d b)).getD (b).toNat .bad).cells.getD 6 .bad)).toInt), (.nums 5 .u8 (((((Xd.y1 c d b)).getD (b).toNat .bad).cells.getD 7 .bad)).isNil (((((Xd.y1 c d b)).getD (b).toNat .bad).cells.getD 7 .bad)).toNums), (.nums 5 .u8 (((((Xd.y1 c d b)).getD (b).toNat .bad).cells.getD 8 .bad)).isNil (((((Xd.y1 c d b)).getD (b).toNat .bad).cells.getD 8 .bad)).toNums), (.sl 24 (((((Xd.y1 c d b)).getD (b).toNat .bad).cells.getD 9 .bad)).isNil (((((Xd.y1 c d b)).getD (b).toNat .bad).cells.getD 9 .bad)).toList)]))
def Xd.y3 (c : List T) (d : Int) (b : Int) : List T := (((Xd.y2 c d b)).set (b).toNat (.agg [(.int .i64 (((((Xd.y2 c d b)).getD (b).toNat .bad).cells.getD 0 .bad)).toInt), (.int .i64 (((((Xd.y2 c d b)).getD (b).toNat .bad).cells.getD 1 .bad)).toInt), (.int .i64 (wrap64 ((wrap64 (d + 1)) + 1))), (.nums 5 .u8 (((((Xd.y2 c d b)).getD (b).toNat .bad).cells.getD 3 .bad)).isNil (((((Xd.y2 c d b)).getD (b).toNat .bad).cells.getD 3 .bad)).toNums), (.nums 5 .u8 (((((Xd.y2 c d b)).getD (b).toNat .bad).cells.getD 4 .bad)).isNil (((((Xd.y2 c d b)).getD (b).toNat .bad).cells.getD 4 .bad)).toNums), (.int .i64 (((((Xd.y2 c d b)).getD (b).toNat .bad).cells.getD 5 .bad)).toInt), (.int .i64 (((((Xd.y2 c d b)).getD (b).toNat .bad).cells.getD 6 .bad)).toInt), (.nums 5 .u8 (((((Xd.y2 c d b)).getD (b).toNat .bad).cells.getD 7 .bad)).isNil (((((Xd.y2 c d b)).getD (b).toNat .bad).cells.getD 7 .bad)).toNums), (.nums 5 .u8 (((((Xd.y2 c d b)).getD (b).toNat .bad).cells.getD 8 .bad)).isNil (((((Xd.y2 c d b)).getD (b).toNat .bad).cells.getD 8 .bad)).toNums), (.sl 24 (((((Xd.y2 c d b)).getD (b).toNat .bad).cells.getD 9 .bad)).isNil (((((Xd.y2 c d b)).getD (b).toNat .bad).cells.getD 9 .bad)).toList)]))
def Xd.y4 (c : List T) (d : Int) (b : Int) (e : (Int × Bool × List Int)) : List T := (((Xd.y3 c d b)).set (b).toNat (.agg [(.int .i64 (((((Xd.y3 c d b)).getD (b).toNat .bad).cells.getD 0 .bad)).toInt), (.int .i64 (((((Xd.y3 c d b)).getD (b).toNat .bad).cells.getD 1 .bad)).toInt), (.int .i64 (((((Xd.y3 c d b)).getD (b).toNat .bad).cells.getD 2 .bad)).toInt), (.nums 5 .u8 e.2.1 e.2.2), (.nums 5 .u8 (((((Xd.y3 c d b)).getD (b).toNat .bad).cells.getD 4 .bad)).isNil (((((Xd.y3 c d b)).getD (b).toNat .bad).cells.getD 4 .bad)).toNums), (.int .i64 (((((Xd.y3 c d b)).getD (b).toNat .bad).cells.getD 5 .bad)).toInt), (.int .i64 (((((Xd.y3 c d b)).getD (b).toNat .bad).cells.getD 6 .bad)).toInt), (.nums 5 .u8 (((((Xd.y3 c d b)).getD (b).toNat .bad).cells.getD 7 .bad)).isNil (((((Xd.y3 c d b)).getD (b).toNat .bad).cells.getD 7 .bad)).toNums), (.nums 5 .u8 (((((Xd.y3 c d b)).getD (b).toNat .bad).cells.getD 8 .bad)).isNil (((((Xd.y3 c d b)).getD (b).toNat .bad).cells.getD 8 .bad)).toNums), (.sl 24 (((((Xd.y3 c d b)).getD (b).toNat .bad).cells.getD 9 .bad)).isNil (((((Xd.y3 c d b)).getD (b).toNat .bad).cells.getD 9 .bad)).toList)]))
def Xd.y5 (c : List T) (d : Int) (b : Int) (e : (Int × Bool × List Int)) (f : (Int × Bool × List Int)) : List T := (((Xd.y4 c d b e)).set (b).toNat (.agg [(.int .i64 (((((Xd.y4 c d b e)).getD (b).toNat .bad).cells.getD 0 .bad)).toInt), (.int .i64 (((((Xd.y4 c d b e)).getD (b).toNat .bad).cells.getD 1 .bad)).toInt), (.int .i64 (((((Xd.y4 c d b e)).getD (b).toNat .bad).cells.getD 2 .bad)).toInt), (.nums 5 .u8 (((((Xd.y4 c d b e)).getD (b).toNat .bad).cells.getD 3 .bad)).isNil (((((Xd.y4 c d b e)).getD (b).toNat .bad).cells.getD 3 .bad)).toNums), (.nums 5 .u8 f.2.1 f.2.2), (.int .i64 (((((Xd.y4 c d b e)).getD (b).toNat .bad).cells.getD 5 .bad)).toInt), (.int .i64 (((((Xd.y4 c d b e)).getD (b).toNat .bad).cells.getD 6 .bad)).toInt), (.nums 5 .u8 (((((Xd.y4 c d b e)).getD (b).toNat .bad).cells.getD 7 .bad)).isNil (((((Xd.y4 c d b e)).getD (b).toNat .bad).cells.getD 7 .bad)).toNums), (.nums 5 .u8 (((((Xd.y4 c d b e)).getD (b).toNat .bad).cells.getD 8 .bad)).isNil (((((Xd.y4 c d b e)).getD (b).toNat .bad).cells.getD 8 .bad)).toNums), (.sl 24 (((((Xd.y4 c d b e)).getD (b).toNat .bad).cells.getD 9 .bad)).isNil (((((Xd.y4 c d b e)).getD (b).toNat .bad).cells.getD 9 .bad)).toList)]))
def Xd.y6 (c : List T) (d : Int) (b : Int) (e : (Int × Bool × List Int)) (f : (Int × Bool × List Int)) : List T := (((Xd.y5 c d b e f)).set (b).toNat (.agg [(.int .i64 (((((Xd.y5 c d b e f)).getD (b).toNat .bad).cells.getD 0 .bad)).toInt), (.int .i64 (((((Xd.y5 c d b e f)).getD (b).toNat .bad).cells.getD 1 .bad)).toInt), (.int .i64 (((((Xd.y5 c d b e f)).getD (b).toNat .bad).cells.getD 2 .bad)).toInt), (.nums 5 .u8 (((((Xd.y5 c d b e f)).getD (b).toNat .bad).cells.getD 3 .bad)).isNil (((((Xd.y5 c d b e f)).getD (b).toNat .bad).cells.getD 3 .bad)).toNums), (.nums 5 .u8 (((((Xd.y5 c d b e f)).getD (b).toNat .bad).cells.getD 4 .bad)).isNil (((((Xd.y5 c d b e f)).getD (b).toNat .bad).cells.getD 4 .bad)).toNums), (.int .i64 f.1), (.int .i64 (((((Xd.y5 c d b e f)).getD (b).toNat .bad).cells.getD 6 .bad)).toInt), (.nums 5 .u8 (((((Xd.y5 c d b e f)).getD (b).toNat .bad).cells.getD 7 .bad)).isNil (((((Xd.y5 c d b e f)).getD (b).toNat .bad).cells.getD 7 .bad)).toNums), (.nums 5 .u8 (((((Xd.y5 c d b e f)).getD (b).toNat .bad).cells.getD 8 .bad)).isNil (((((Xd.y5 c d b e f)).getD (b).toNat .bad).cells.getD 8 .bad)).toNums), (.sl 24 (((((Xd.y5 c d b e f)).getD (b).toNat .bad).cells.getD 9 .bad)).isNil (((((Xd.y5 c d b e f)).getD (b).toNat .bad).cells.getD 9 .bad)).toList)]))
def Xd.y7 (c : List T) (d : Int) (b : Int) (e : (Int × Bool × List Int)) (f : (Int × Bool × List Int)) : List T := (((Xd.y6 c d b e f)).set (b).toNat (.agg [(.int .i64 (((((Xd.y6 c d b e f)).getD (b).toNat .bad).cells.getD 0 .bad)).toInt), (.int .i64 (((((Xd.y6 c d b e f)).getD (b).toNat .bad).cells.getD 1 .bad)).toInt), (.int .i64 (((((Xd.y6 c d b e f)).getD (b).toNat .bad).cells.getD 2 .bad)).toInt), (.nums 5 .u8 (((((Xd.y6 c d b e f)).getD (b).toNat .bad).cells.getD 3 .bad)).isNil (((((Xd.y6 c d b e f)).getD (b).toNat .bad).cells.getD 3 .bad)).toNums), (.nums 5 .u8 (((((Xd.y6 c d b e f)).getD (b).toNat .bad).cells.getD 4 .bad)).isNil (((((Xd.y6 c d b e f)).getD (b).toNat .bad).cells.getD 4 .bad)).toNums), (.int .i64 (((((Xd.y6 c d b e f)).getD (b).toNat .bad).cells.getD 5 .bad)).toInt), (.int .i64 (wrap64 (f.1 + 1))), (.nums 5 .u8 (((((Xd.y6 c d b e f)).getD (b).toNat .bad).cells.getD 7 .bad)).isNil (((((Xd.y6 c d b e f)).getD (b).toNat .bad).cells.getD 7 .bad)).toNums), (.nums 5 .u8 (((((Xd.y6 c d b e f)).getD (b).toNat .bad).cells.getD 8 .bad)).isNil (((((Xd.y6 c d b e f)).getD (b).toNat .bad).cells.getD 8 .bad)).toNums), (.sl 24 (((((Xd.y6 c d b e f)).getD (b).toNat .bad).cells.getD 9 .bad)).isNil (((((Xd.y6 c d b e f)).getD (b).toNat .bad).cells.getD 9 .bad)).toList)]))
def Xd.y8 (c : List T) (d : Int) (b : Int) (e : (Int × Bool × List Int)) (f : (Int × Bool × List Int)) (g : (Int × Bool × List Int)) : List T := (((Xd.y7 c d b e f)).set (b).toNat (.agg [(.int .i64 (((((Xd.y7 c d b e f)).getD (b).toNat .bad).cells.getD 0 .bad)).toInt), (.int .i64 (((((Xd.y7 c d b e f)).getD (b).toNat .bad).cells.getD 1 .bad)).toInt), (.int .i64 (((((Xd.y7 c d b e f)).getD (b).toNat .bad).cells.getD 2 .bad)).toInt), (.nums 5 .u8 (((((Xd.y7 c d b e f)).getD (b).toNat .bad).cells.getD 3 .bad)).isNil (((((Xd.y7 c d b e f)).getD (b).toNat .bad).cells.getD 3 .bad)).toNums), (.nums 5 .u8 (((((Xd.y7 c d b e f)).getD (b).toNat .bad).cells.getD 4 .bad)).isNil (((((Xd.y7 c d b e f)).getD (b).toNat .bad).cells.getD 4 .bad)).toNums), (.int .i64 (((((Xd.y7 c d b e f)).getD (b).toNat .bad).cells.getD 5 .bad)).toInt), (.int .i64 (((((Xd.y7 c d b e f)).getD (b).toNat .bad).cells.getD 6 .bad)).toInt), (.nums 5 .u8 g.2.1 g.2.2), (.nums 5 .u8 (((((Xd.y7 c d b e f)).getD (b).toNat .bad).cells.getD 8 .bad)).isNil (((((Xd.y7 c d b e f)).getD (b).toNat .bad).cells.getD 8 .bad)).toNums), (.sl 24 (((((Xd.y7 c d b e f)).getD (b).toNat .bad).cells.getD 9 .bad)).isNil (((((Xd.y7 c d b e f)).getD (b).toNat .bad).cells.getD 9 .bad)).toList)]))
def Xd.y9 (c : List T) (d : Int) (b : Int) (e : (Int × Bool × List Int)) (f : (Int × Bool × List Int)) (g : (Int × Bool × List Int)) (i : (Int × Bool × List Int)) : List T := (((Xd.y8 c d b e f g)).set (b).toNat (.agg [(.int .i64 (((((Xd.y8 c d b e f g)).getD (b).toNat .bad).cells.getD 0 .bad)).toInt), (.int .i64 (((((Xd.y8 c d b e f g)).getD (b).toNat .bad).cells.getD 1 .bad)).toInt), (.int .i64 (((((Xd.y8 c d b e f g)).getD (b).toNat .bad).cells.getD 2 .bad)).toInt), (.nums 5 .u8 (((((Xd.y8 c d b e f g)).getD (b).toNat .bad).cells.getD 3 .bad)).isNil (((((Xd.y8 c d b e f g)).getD (b).toNat .bad).cells.getD 3 .bad)).toNums), (.nums 5 .u8 (((((Xd.y8 c d b e f g)).getD (b).toNat .bad).cells.getD 4 .bad)).isNil (((((Xd.y8 c d b e f g)).getD (b).toNat .bad).cells.getD 4 .bad)).toNums), (.int .i64 (((((Xd.y8 c d b e f g)).getD (b).toNat .bad).cells.getD 5 .bad)).toInt), (.int .i64 (((((Xd.y8 c d b e f g)).getD (b).toNat .bad).cells.getD 6 .bad)).toInt), (.nums 5 .u8 (((((Xd.y8 c d b e f g)).getD (b).toNat .bad).cells.getD 7 .bad)).isNil (((((Xd.y8 c d b e f g)).getD (b).toNat .bad).cells.getD 7 .bad)).toNums), (.nums 5 .u8 i.2.1 i.2.2), (.sl 24 (((((Xd.y8 c d b e f g)).getD (b).toNat .bad).cells.getD 9 .bad)).isNil (((((Xd.y8 c d b e f g)).getD (b).toNat .bad).cells.getD 9 .bad)).toList)]))
def Xd.y10 (c : List T) (d : Int) (b : Int) (e : (Int × Bool × List Int)) (f : (Int × Bool × List Int)) (g : (Int × Bool × List Int)) (i : (Int × Bool × List Int)) (u : (Int × Bool × List T)) : List T := (((Xd.y9 c d b e f g i)).set (b).toNat (.agg [(.int .i64 (((((Xd.y9 c d b e f g i)).getD (b).toNat .bad).cells.getD 0 .bad)).toInt), (.int .i64 (((((Xd.y9 c d b e f g i)).getD (b).toNat .bad).cells.getD 1 .bad)).toInt), (.int .i64 (((((Xd.y9 c d b e f g i)).getD (b).toNat .bad).cells.getD 2 .bad)).toInt), (.nums 5 .u8 (((((Xd.y9 c d b e f g i)).getD (b).toNat .bad).cells.getD 3 .bad)).isNil (((((Xd.y9 c d b e f g i)).getD (b).toNat .bad).cells.getD 3 .bad)).toNums), (.nums 5 .u8 (((((Xd.y9 c d b e f g i)).getD (b).toNat .bad).cells.getD 4 .bad)).isNil (((((Xd.y9 c d b e f g i)).getD (b).toNat .bad).cells.getD 4 .bad)).toNums), (.int .i64 (((((Xd.y9 c d b e f g i)).getD (b).toNat .bad).cells.getD 5 .bad)).toInt), (.int .i64 (((((Xd.y9 c d b e f g i)).getD (b).toNat .bad).cells.getD 6 .bad)).toInt), (.nums 5 .u8 (((((Xd.y9 c d b e f g i)).getD (b).toNat .bad).cells.getD 7 .bad)).isNil (((((Xd.y9 c d b e f g i)).getD (b).toNat .bad).cells.getD 7 .bad)).toNums), (.nums 5 .u8 (((((Xd.y9 c d b e f g i)).getD (b).toNat .bad).cells.getD 8 .bad)).isNil (((((Xd.y9 c d b e f g i)).getD (b).toNat .bad).cells.getD 8 .bad)).toNums), (.sl 24 u.2.1 u.2.2)]))
def Xd.l0 : Nat -> Bool -> (List T) -> Int -> Int -> Option (Int × Bool × List T)
 | 0, _, _, _, _ => none
 | k + 1, q, c, d, b => cond (decide (b < ((c).length : Int))) (cond (decide ((0 : Int) <= b)) (cond (decide (b < ((c).length : Int))) (cond (decide ((0 : Int) <= b)) (cond (decide (b < (((Xd.y1 c d b)).length : Int))) (cond (decide ((0 : Int) <= b)) (cond (decide (b < (((Xd.y2 c d b)).length : Int))) (cond (decide ((0 : Int) <= b)) (cond (decide (b < (((Xd.y3 c d b)).length : Int))) ((Xe.f k ((((((Xd.y3 c d b)).getD (b).toNat .bad).cells.getD 3 .bad)).isNil) ((((((Xd.y3 c d b)).getD (b).toNat .bad).cells.getD 3 .bad)).toNums) (wrap64 ((wrap64 ((wrap64 (d + 1)) + 1)) + 1))).bind fun e => cond (decide ((0 : Int) <= b)) (cond (decide (b < (((Xd.y4 c d b e)).length : Int))) ((Xe.f k ((((((Xd.y4 c d b e)).getD (b).toNat .bad).cells.getD 4 .bad)).isNil) ((((((Xd.y4 c d b e)).getD (b).toNat .bad).cells.getD 4 .bad)).toNums) e.1).bind fun f => cond (decide ((0 : Int) <= b)) (cond (decide (b < (((Xd.y5 c d b e f)).length : Int))) (cond (decide ((0 : Int) <= b)) (cond (decide (b < (((Xd.y6 c d b e f)).length : Int))) (cond (decide ((0 : Int) <= b)) (cond (decide (b < (((Xd.y7 c d b e f)).length : Int))) ((Xe.f k ((((((Xd.y7 c d b e f)).getD (b).toNat .bad).cells.getD 7 .bad)).isNil) ((((((Xd.y7 c d b e f)).getD (b).toNat .bad).cells.getD 7 .bad)).toNums) (wrap64 ((wrap64 (f.1 + 1)) + 1))).bind fun g => cond (decide ((0 : Int) <= b)) (cond (decide (b < (((Xd.y8 c d b e f g)).length : Int))) ((Xe.f k ((((((Xd.y8 c d b e f g)).getD (b).toNat .bad).cells.getD 8 .bad)).isNil) ((((((Xd.y8 c d b e f g)).getD (b).toNat .bad).cells.getD 8 .bad)).toNums) g.1).bind fun i => cond (decide ((0 : Int) <= b)) (cond (decide (b < (((Xd.y9 c d b e f g i)).length : Int))) ((Xk.f k ((((((Xd.y9 c d b e f g i)).getD (b).toNat .bad).cells.getD 9 .bad)).isNil) ((((((Xd.y9 c d b e f g i)).getD (b).toNat .bad).cells.getD 9 .bad)).toList) i.1).bind fun u => Xd.l0 k q (Xd.y10 c d b e f g i u) u.1 (wrap64 (b + 1))) (none)) (none)) (none)) (none)) (none)) (none)) (none)) (none)) (none)) (none)) (none)) (none)) (none)) (none)) (none)) (none)) (none)) (none)) (none)) (none)) (some (d, q, c))
def Xd.f : Nat -> Bool -> (List T) -> Int -> Option (Int × Bool × List T)
 | 0, _, _, _ => none
 | k + 1, o, p, s => Xd.l0 k o p s 0
def Xd.enc (r : Int × Bool × List T) : Res := ⟨[.vals false [((.int .i64 r.1), true)]], [[((.sl 54 r.2.1 r.2.2), true)]]⟩
def Xd.ans (k : Nat) : List Arg -> Ans
 | [.own (.sl 54 o p), .v (.int .i64 s)] => ⟨Xd.f k o p s, Xd.enc⟩
 | _ => Ans.no
def Xd.cuts : List (Nat × Keep) := [(26, ⟨[(0, none), (1, some []), (5, some [])], []⟩)]
noncomputable def Xd.K0 : List Fr := framesAt [true, false, true, false] (bodyOf Tryz.f27 Xd.cuts) []
def Xd.N0 (q : Bool) (c : List T) (d : Int) (b : Int) : St := stOf 88 88 2 [(0, .val ⟨(.sl 54 q c), [.h 0], true, some (.h 0)⟩), (1, vi d), (5, vi b)] []
set_option maxHeartbeats 0 in
set_option maxRecDepth 100000 in
theorem Xd.r (o) (p) (k) : (∀ q c d b, rounds Tryz.prog (tb [Xe.F, Xk.F]) (finishM Tryz.prog Tryz.f27 (.sl 54 o p)) 100000 k Xd.K0 (Xd.N0 q c d b) = (Xd.l0 k q c d b).map Xd.enc) := by
 induction k with
 | zero => intros <;> rfl
 | succ k ih =>
  have i0 := ih
  intros <;> simp only [Xd.l0.eq_2, mc, mb, ms, mn, <- i0, -eq_self] <;> kernel_rfl
set_option maxHeartbeats 0 in
set_option maxRecDepth 100000 in
theorem Xd.eq (k o p s) : answerM Tryz.prog (tb [Xe.F, Xk.F]) 100000 Xd.cuts  Tryz.f27 (k + 1) [.own (.sl 54 o p), .v (.int .i64 s)] = (Xd.f (k + 1) o p s).map Xd.enc := by
 have i0 := Xd.r o p k; simp only [Xd.f.eq_2, mc, mb, ms, mn, <- i0, -eq_self]; show _ = _; kernel_rfl
theorem Xd.sound (k : Nat) : SoundF Tryz.prog 27 (fun a => (Xd.ans k a).val) := by
 refine qat (fun args hne => ?_) (fun t n l m h => ?_)
 ·unfold Xd.ans
  split
  ·exact (hne _ _ rfl).elim
  ·rfl
 unfold Xd.ans at h
 dsimp only at h
 split at h
 ·rename_i heq
  cases heq
  cases k with
  | zero => cases h
  | succ k =>
   unfold Ans.val at h
   rw [<- Xd.eq] at h
   exact qY (Cs := tb [Xe.F, Xk.F]) mixed Tryz.func27 100000 Xd.cuts (k + 1) (fun j _ => qu (qbG j [Xe.F, Xk.F])) _ _ _ _ h
 ·exact (Ans.no_val h).elim
set_option maxHeartbeats 0 in
set_option maxRecDepth 100000 in
def Xd.F : Fn := ⟨27, Xd.ans, Xd.sound⟩
end Go.Proofs.YthocpcfjfgnkgaaGreatG
