/- What the functions compute, printed by a program of this repo; each is shown to be what the machine of values answers. Names are short, for the claim's size. No condition. -/
import Derived.Test.YthocpcfjfgnkgaaGreatProg
import Derived.KernelRfl
import Derived.Test.YthocpcfjfgnkgaaGreatGFnExactClosee
namespace Go.Proofs.YthocpcfjfgnkgaaGreatG
open Go Go.Proofs.YthocpcfjfgnkgaaGreatRv Go.Proofs Go.RowKit
set_option linter.unusedVariables false
set_option linter.unusedSimpArgs false
def Yav.f : Nat -> Int -> Int -> Int -> Bool -> (List Int) -> Bool -> (List Int) -> Int -> Int -> Bool -> (List Int) -> Bool -> (List Int) -> Bool -> (List T) -> Int -> Int -> Int -> Bool -> (List Int) -> Bool -> (List Int) -> Int -> Int -> Bool -> (List Int) -> Bool -> (List Int) -> Bool -> (List T) -> Option Bool
 | 0, _, _, _, _, _, _, _, _, _, _, _, _, _, _, _, _, _, _, _, _, _, _, _, _, _, _, _, _, _, _ => none
 | k + 1, a, b, c, d, e, f, g, h, i, j, l, m, n, o, p, q, s, t, u, v, w, y, z, a0, a1, a2, a3, a4, a5, a6 => cond (!(decide (a = q))) (some false) (cond (!(decide (b = s))) (some false) (cond (!(decide (c = t))) (some false) ((Xo.f k d e u v).bind fun a7 => cond (!a7) (some false) ((Xo.f k f g w y).bind fun a8 => cond (!a8) (some false) ((Yay.f k h i j l m n o p z a0 a1 a2 a3 a4 a5 a6).bind fun a9 => cond (!a9) (some false) (some true))))))
def Yav.enc (r : Bool) : Res := ⟨[.vals false [((.bool r), true)]], []⟩
def Yav.ans (k : Nat) : List Arg -> Ans
 | [.v (.agg [(.int .i64 a), (.int .i64 b), (.int .i64 c), (.nums 5 .u8 d e), (.nums 5 .u8 f g), (.int .i64 h), (.int .i64 i), (.nums 5 .u8 j l), (.nums 5 .u8 m n), (.sl 24 o p)]), .v (.agg [(.int .i64 q), (.int .i64 s), (.int .i64 t), (.nums 5 .u8 u v), (.nums 5 .u8 w y), (.int .i64 z), (.int .i64 a0), (.nums 5 .u8 a1 a2), (.nums 5 .u8 a3 a4), (.sl 24 a5 a6)])] => ⟨Yav.f k a b c d e f g h i j l m n o p q s t u v w y z a0 a1 a2 a3 a4 a5 a6, Yav.enc⟩
 | _ => Ans.no
def Yav.F : Fn := ⟨70, Yav.ans, sd Yav.ans Tryz.func70 [Xo.F, Yay.F] [] [] (fun k x => by unfold Yav.ans; split; (right; change _ = Option.map Yav.enc _; simp only [Yav.f.eq_2, mc, mb, ms, mn, -eq_self]; kernel_rfl); exact .inl rfl) (fun x => by unfold Yav.ans; split <;> rfl)⟩
def Ybt.f : Nat -> Int -> Int -> Int -> Bool -> (List Int) -> Bool -> (List Int) -> Int -> Int -> Bool -> (List Int) -> Bool -> (List Int) -> Bool -> (List T) -> Bool -> (List T) -> Int -> Int -> Int -> Bool -> (List Int) -> Bool -> (List Int) -> Int -> Int -> Bool -> (List Int) -> Bool -> (List Int) -> Bool -> (List T) -> Bool -> (List T) -> Option Bool
 | 0, _, _, _, _, _, _, _, _, _, _, _, _, _, _, _, _, _, _, _, _, _, _, _, _, _, _, _, _, _, _, _, _, _, _ => none
 | k + 1, a, b, c, d, e, f, g, h, i, j, l, m, n, o, p, q, s, t, u, v, w, y, z, a0, a1, a2, a3, a4, a5, a6, a7, a8, a9, b0 => (Yav.f k a b c d e f g h i j l m n o p t u v w y z a0 a1 a2 a3 a4 a5 a6 a7 a8).bind fun b1 => cond (!b1) (some false) ((XM.f k q s a9 b0).bind fun b2 => cond (!b2) (some false) (some true))
def Ybt.enc (r : Bool) : Res := ⟨[.vals false [((.bool r), true)]], []⟩
def Ybt.ans (k : Nat) : List Arg -> Ans
 | [.v (.agg [(.int .i64 a), (.int .i64 b), (.int .i64 c), (.nums 5 .u8 d e), (.nums 5 .u8 f g), (.int .i64 h), (.int .i64 i), (.nums 5 .u8 j l), (.nums 5 .u8 m n), (.sl 24 o p), (.sl 24 q s)]), .v (.agg [(.int .i64 t), (.int .i64 u), (.int .i64 v), (.nums 5 .u8 w y), (.nums 5 .u8 z a0), (.int .i64 a1), (.int .i64 a2), (.nums 5 .u8 a3 a4), (.nums 5 .u8 a5 a6), (.sl 24 a7 a8), (.sl 24 a9 b0)])] => ⟨Ybt.f k a b c d e f g h i j l m n o p q s t u v w y z a0 a1 a2 a3 a4 a5 a6 a7 a8 a9 b0, Ybt.enc⟩
 | _ => Ans.no
def Ybt.F : Fn := ⟨71, Ybt.ans, sd Ybt.ans Tryz.func71 [XM.F, Yav.F] [] [] (fun k x => by unfold Ybt.ans; split; (right; change _ = Option.map Ybt.enc _; simp only [Ybt.f.eq_2, mc, mb, ms, mn, -eq_self]; kernel_rfl); exact .inl rfl) (fun x => by unfold Ybt.ans; split <;> rfl)⟩
def Ybu.f : Nat -> Int -> Int -> Bool -> (List Int) -> Int -> Int -> Bool -> (List Int) -> Option Bool
 | 0, _, _, _, _, _, _, _, _ => none
 | k + 1, a, b, c, d, e, f, g, h => cond (!(decide (a = e))) (some false) (cond (!(decide (b = f))) (some false) ((Xo.f k c d g h).bind fun i => cond (!i) (some false) (some true)))
def Ybu.enc (r : Bool) : Res := ⟨[.vals false [((.bool r), true)]], []⟩
def Ybu.ans (k : Nat) : List Arg -> Ans
 | [.v (.agg [(.int .i64 a), (.int .i64 b), (.nums 5 .u8 c d)]), .v (.agg [(.int .i64 e), (.int .i64 f), (.nums 5 .u8 g h)])] => ⟨Ybu.f k a b c d e f g h, Ybu.enc⟩
 | _ => Ans.no
def Ybu.F : Fn := ⟨133, Ybu.ans, sd Ybu.ans Tryz.func133 [Xo.F] [] [] (fun k x => by unfold Ybu.ans; split; (right; change _ = Option.map Ybu.enc _; simp only [Ybu.f.eq_2, mc, mb, ms, mn, -eq_self]; kernel_rfl); exact .inl rfl) (fun x => by unfold Ybu.ans; split <;> rfl)⟩
def Yaf.l0 : Nat -> Bool -> (List T) -> Bool -> (List T) -> Int -> Option Bool
 | 0, _, _, _, _, _ => none
 | k + 1, h, b, i, c, a => cond (decide (a < ((b).length : Int))) (cond (decide ((0 : Int) <= a)) (cond (decide (a < ((b).length : Int))) (cond (decide ((0 : Int) <= a)) (cond (decide (a < ((c).length : Int))) ((Ybu.f k (((((b).getD (a).toNat .bad).cells.getD 0 .bad)).toInt) (((((b).getD (a).toNat .bad).cells.getD 1 .bad)).toInt) (((((b).getD (a).toNat .bad).cells.getD 2 .bad)).isNil) (((((b).getD (a).toNat .bad).cells.getD 2 .bad)).toNums) (((((c).getD (a).toNat .bad).cells.getD 0 .bad)).toInt) (((((c).getD (a).toNat .bad).cells.getD 1 .bad)).toInt) (((((c).getD (a).toNat .bad).cells.getD 2 .bad)).isNil) (((((c).getD (a).toNat .bad).cells.getD 2 .bad)).toNums)).bind fun j => cond (!j) (some false) (Yaf.l0 k h b i c (wrap64 (a + 1)))) (none)) (none)) (none)) (none)) (some true)
def Yaf.f : Nat -> Bool -> (List T) -> Bool -> (List T) -> Option Bool
 | 0, _, _, _, _ => none
 | k + 1, f, d, g, e => cond (!(decide (((d).length : Int) = ((e).length : Int)))) (some false) (Yaf.l0 k f d g e 0)
def Yaf.enc (r : Bool) : Res := ⟨[.vals false [((.bool r), true)]], []⟩
def Yaf.ans (k : Nat) : List Arg -> Ans
 | [.v (.sl 83 f d), .v (.sl 83 g e)] => ⟨Yaf.f k f d g e, Yaf.enc⟩
 | _ => Ans.no
def Yaf.cuts : List (Nat × Keep) := [(58, ⟨[(0, some []), (1, some []), (5, some [])], []⟩)]
noncomputable def Yaf.K0 : List Fr := framesAt [true, true, false, true, false] (bodyOf Tryz.f104 Yaf.cuts) []
def Yaf.N0 (h : Bool) (b : List T) (i : Bool) (c : List T) (a : Int) : St := stOf 27 27 2 [(0, .val ⟨(.sl 83 h b), [], false, none⟩), (1, .val ⟨(.sl 83 i c), [], false, none⟩), (5, vi a)] []
theorem Yaf.r (f) (d) (g) (e) (k) : (∀ h b i c a, rounds Tryz.prog (tb [Ybu.F]) (finish Tryz.prog [] Tryz.f104 [.v (.sl 83 f d), .v (.sl 83 g e)]) 100000 k Yaf.K0 (Yaf.N0 h b i c a) = (Yaf.l0 k h b i c a).map Yaf.enc) := by
 induction k with
 | zero => intros <;> rfl
 | succ k ih =>
  have i0 := ih
  intros <;> simp only [Yaf.l0.eq_2, mc, mb, ms, mn, <- i0, -eq_self] <;> kernel_rfl
def Yaf.F : Fn := ⟨104, Yaf.ans, sd Yaf.ans Tryz.func104 [Ybu.F] Yaf.cuts [] (fun k x => by unfold Yaf.ans; split; (right; rename_i f d g e; have i0 := Yaf.r f d g e k; change _ = Option.map Yaf.enc _; simp only [Yaf.f.eq_2, mc, mb, ms, mn, <- i0, -eq_self]; kernel_rfl); exact .inl rfl) (fun x => by unfold Yaf.ans; split <;> rfl)⟩
def Ybv.f : Nat -> Int -> Bool -> (List T) -> Int -> Bool -> (List T) -> Option Bool
 | 0, _, _, _, _, _, _ => none
 | k + 1, a, b, c, d, e, f => cond (!(decide (a = d))) (some false) ((Yaf.f k b c e f).bind fun g => cond (!g) (some false) (some true))
def Ybv.enc (r : Bool) : Res := ⟨[.vals false [((.bool r), true)]], []⟩
def Ybv.ans (k : Nat) : List Arg -> Ans
 | [.v (.agg [(.int .i64 a), (.sl 83 b c)]), .v (.agg [(.int .i64 d), (.sl 83 e f)])] => ⟨Ybv.f k a b c d e f, Ybv.enc⟩
 | _ => Ans.no
def Ybv.F : Fn := ⟨72, Ybv.ans, sd Ybv.ans Tryz.func72 [Yaf.F] [] [] (fun k x => by unfold Ybv.ans; split; (right; change _ = Option.map Ybv.enc _; simp only [Ybv.f.eq_2, mc, mb, ms, mn, -eq_self]; kernel_rfl); exact .inl rfl) (fun x => by unfold Ybv.ans; split <;> rfl)⟩
def Yag.l0 : Nat -> Bool -> (List T) -> Bool -> (List T) -> Int -> Option Bool
 | 0, _, _, _, _, _ => none
 | k + 1, h, b, i, c, a => cond (decide (a < ((b).length : Int))) (cond (decide ((0 : Int) <= a)) (cond (decide (a < ((b).length : Int))) (cond (decide ((0 : Int) <= a)) (cond (decide (a < ((c).length : Int))) ((Yav.f k (((((b).getD (a).toNat .bad).cells.getD 0 .bad)).toInt) (((((b).getD (a).toNat .bad).cells.getD 1 .bad)).toInt) (((((b).getD (a).toNat .bad).cells.getD 2 .bad)).toInt) (((((b).getD (a).toNat .bad).cells.getD 3 .bad)).isNil) (((((b).getD (a).toNat .bad).cells.getD 3 .bad)).toNums) (((((b).getD (a).toNat .bad).cells.getD 4 .bad)).isNil) (((((b).getD (a).toNat .bad).cells.getD 4 .bad)).toNums) (((((b).getD (a).toNat .bad).cells.getD 5 .bad)).toInt) (((((b).getD (a).toNat .bad).cells.getD 6 .bad)).toInt) (((((b).getD (a).toNat .bad).cells.getD 7 .bad)).isNil) (((((b).getD (a).toNat .bad).cells.getD 7 .bad)).toNums) (((((b).getD (a).toNat .bad).cells.getD 8 .bad)).isNil) (((((b).getD (a).toNat .bad).cells.getD 8 .bad)).toNums) (((((b).getD (a).toNat .bad).cells.getD 9 .bad)).isNil) (((((b).getD (a).toNat .bad).cells.getD 9 .bad)).toList) (((((c).getD (a).toNat .bad).cells.getD 0 .bad)).toInt) (((((c).getD (a).toNat .bad).cells.getD 1 .bad)).toInt) (((((c).getD (a).toNat .bad).cells.getD 2 .bad)).toInt) (((((c).getD (a).toNat .bad).cells.getD 3 .bad)).isNil) (((((c).getD (a).toNat .bad).cells.getD 3 .bad)).toNums) (((((c).getD (a).toNat .bad).cells.getD 4 .bad)).isNil) (((((c).getD (a).toNat .bad).cells.getD 4 .bad)).toNums) (((((c).getD (a).toNat .bad).cells.getD 5 .bad)).toInt) (((((c).getD (a).toNat .bad).cells.getD 6 .bad)).toInt) (((((c).getD (a).toNat .bad).cells.getD 7 .bad)).isNil) (((((c).getD (a).toNat .bad).cells.getD 7 .bad)).toNums) (((((c).getD (a).toNat .bad).cells.getD 8 .bad)).isNil) (((((c).getD (a).toNat .bad).cells.getD 8 .bad)).toNums) (((((c).getD (a).toNat .bad).cells.getD 9 .bad)).isNil) (((((c).getD (a).toNat .bad).cells.getD 9 .bad)).toList)).bind fun j => cond (!j) (some false) (Yag.l0 k h b i c (wrap64 (a + 1)))) (none)) (none)) (none)) (none)) (some true)
def Yag.f : Nat -> Bool -> (List T) -> Bool -> (List T) -> Option Bool
 | 0, _, _, _, _ => none
 | k + 1, f, d, g, e => cond (!(decide (((d).length : Int) = ((e).length : Int)))) (some false) (Yag.l0 k f d g e 0)
def Yag.enc (r : Bool) : Res := ⟨[.vals false [((.bool r), true)]], []⟩
def Yag.ans (k : Nat) : List Arg -> Ans
 | [.v (.sl 54 f d), .v (.sl 54 g e)] => ⟨Yag.f k f d g e, Yag.enc⟩
 | _ => Ans.no
def Yag.cuts : List (Nat × Keep) := [(58, ⟨[(0, some []), (1, some []), (5, some [])], []⟩)]
noncomputable def Yag.K0 : List Fr := framesAt [true, true, false, true, false] (bodyOf Tryz.f105 Yag.cuts) []
def Yag.N0 (h : Bool) (b : List T) (i : Bool) (c : List T) (a : Int) : St := stOf 27 27 2 [(0, .val ⟨(.sl 54 h b), [], false, none⟩), (1, .val ⟨(.sl 54 i c), [], false, none⟩), (5, vi a)] []
theorem Yag.r (f) (d) (g) (e) (k) : (∀ h b i c a, rounds Tryz.prog (tb [Yav.F]) (finish Tryz.prog [] Tryz.f105 [.v (.sl 54 f d), .v (.sl 54 g e)]) 100000 k Yag.K0 (Yag.N0 h b i c a) = (Yag.l0 k h b i c a).map Yag.enc) := by
 induction k with
 | zero => intros <;> rfl
 | succ k ih =>
  have i0 := ih
  intros <;> simp only [Yag.l0.eq_2, mc, mb, ms, mn, <- i0, -eq_self] <;> kernel_rfl
def Yag.F : Fn := ⟨105, Yag.ans, sd Yag.ans Tryz.func105 [Yav.F] Yag.cuts [] (fun k x => by unfold Yag.ans; split; (right; rename_i f d g e; have i0 := Yag.r f d g e k; change _ = Option.map Yag.enc _; simp only [Yag.f.eq_2, mc, mb, ms, mn, <- i0, -eq_self]; kernel_rfl); exact .inl rfl) (fun x => by unfold Yag.ans; split <;> rfl)⟩
def Ybw.f : Nat -> Bool -> (List T) -> Int -> Int -> Bool -> (List Int) -> Bool -> (List Int) -> Bool -> (List T) -> Bool -> (List T) -> Int -> Int -> Bool -> (List Int) -> Bool -> (List Int) -> Bool -> (List T) -> Option Bool
 | 0, _, _, _, _, _, _, _, _, _, _, _, _, _, _, _, _, _, _, _, _ => none
 | k + 1, a, b, c, d, e, f, g, h, i, j, l, m, n, o, p, q, s, t, u, v => (Yag.f k a b l m).bind fun w => cond (!w) (some false) ((Yay.f k c d e f g h i j n o p q s t u v).bind fun y => cond (!y) (some false) (some true))
def Ybw.enc (r : Bool) : Res := ⟨[.vals false [((.bool r), true)]], []⟩
def Ybw.ans (k : Nat) : List Arg -> Ans
 | [.v (.agg [(.sl 54 a b), (.int .i64 c), (.int .i64 d), (.nums 5 .u8 e f), (.nums 5 .u8 g h), (.sl 24 i j)]), .v (.agg [(.sl 54 l m), (.int .i64 n), (.int .i64 o), (.nums 5 .u8 p q), (.nums 5 .u8 s t), (.sl 24 u v)])] => ⟨Ybw.f k a b c d e f g h i j l m n o p q s t u v, Ybw.enc⟩
 | _ => Ans.no
def Ybw.F : Fn := ⟨73, Ybw.ans, sd Ybw.ans Tryz.func73 [Yay.F, Yag.F] [] [] (fun k x => by unfold Ybw.ans; split; (right; change _ = Option.map Ybw.enc _; simp only [Ybw.f.eq_2, mc, mb, ms, mn, -eq_self]; kernel_rfl); exact .inl rfl) (fun x => by unfold Ybw.ans; split <;> rfl)⟩
def Ybx.f : Nat -> Int -> Int -> Int -> Bool -> (List Int) -> Bool -> (List T) -> Int -> Int -> Int -> Bool -> (List Int) -> Bool -> (List T) -> Option Bool
 | 0, _, _, _, _, _, _, _, _, _, _, _, _, _, _ => none
 | k + 1, a, b, c, d, e, f, g, h, i, j, l, m, n, o => cond (!(decide (a = h))) (some false) (cond (!(decide (b = i))) (some false) (cond (!(decide (c = j))) (some false) ((Xo.f k d e l m).bind fun p => cond (!p) (some false) ((XM.f k f g n o).bind fun q => cond (!q) (some false) (some true)))))
def Ybx.enc (r : Bool) : Res := ⟨[.vals false [((.bool r), true)]], []⟩
def Ybx.ans (k : Nat) : List Arg -> Ans
 | [.v (.agg [(.int .i64 a), (.int .i64 b), (.int .i64 c), (.nums 5 .u8 d e), (.sl 24 f g)]), .v (.agg [(.int .i64 h), (.int .i64 i), (.int .i64 j), (.nums 5 .u8 l m), (.sl 24 n o)])] => ⟨Ybx.f k a b c d e f g h i j l m n o, Ybx.enc⟩
 | _ => Ans.no
def Ybx.F : Fn := ⟨74, Ybx.ans, sd Ybx.ans Tryz.func74 [Xo.F, XM.F] [] [] (fun k x => by unfold Ybx.ans; split; (right; change _ = Option.map Ybx.enc _; simp only [Ybx.f.eq_2, mc, mb, ms, mn, -eq_self]; kernel_rfl); exact .inl rfl) (fun x => by unfold Ybx.ans; split <;> rfl)⟩
end Go.Proofs.YthocpcfjfgnkgaaGreatG
