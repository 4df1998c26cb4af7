/- What the functions compute, printed by a program of this repo; each is shown to be what the machine of values answers. Names are short, for the claim's size. No condition. -/
import Derived.Test.YthocpcfjfgnkgaaGreatProg
import Derived.KernelRfl
import Derived.Test.YthocpcfjfgnkgaaGreatGFnExactClosec
namespace Go.Proofs.YthocpcfjfgnkgaaGreatG
open Go Go.Proofs.YthocpcfjfgnkgaaGreatRv Go.Proofs Go.RowKit
set_option linter.unusedVariables false
set_option linter.unusedSimpArgs false
def XW.l0 : Nat -> Int -> Bool -> (List Int) -> Int -> Int -> Option Int
 | 0, _, _, _, _, _ => none
 | k + 1, d, g, b, e, a => cond (decide (a < e)) (cond (decide ((0 : Int) <= a)) (cond (decide (a < ((b).length : Int))) ((Ybn.f k (rdI b a)).bind fun h => XW.l0 k (wrap64 (d + h)) g b e (wrap64 (a + 1))) (none)) (none)) (some d)
def XW.f : Nat -> Bool -> (List Int) -> Option Int
 | 0, _, _ => none
 | k + 1, f, c => XW.l0 k 0 f c ((c).length : Int) 0
def XW.enc (r : Int) : Res := ⟨[.vals false [((.int .i64 r), true)]], []⟩
def XW.ans (k : Nat) : List Arg -> Ans
 | [.v (.nums 5 .u8 f c)] => ⟨XW.f k f c, XW.enc⟩
 | _ => Ans.no
def XW.cuts : List (Nat × Keep) := [(58, ⟨[(3, some []), (6, some []), (7, some []), (8, some [])], []⟩)]
noncomputable def XW.K0 : List Fr := framesAt [true, true, false, true, false] (bodyOf Tryz.f125 XW.cuts) []
def XW.N0 (d : Int) (g : Bool) (b : List Int) (e : Int) (a : Int) : St := stOf 18 18 1 [(3, vi d), (6, .val ⟨(.nums 5 .u8 g b), [], false, none⟩), (7, vi e), (8, vi a)] []
theorem XW.r (f) (c) (k) : (∀ d g b e a, rounds Tryz.prog (tb [Ybn.F]) (finish Tryz.prog [] Tryz.f125 [.v (.nums 5 .u8 f c)]) 100000 k XW.K0 (XW.N0 d g b e a) = (XW.l0 k d g b e a).map XW.enc) := by
 induction k with
 | zero => intros <;> rfl
 | succ k ih =>
  have i0 := ih
  intros <;> simp only [XW.l0.eq_2, mc, mb, ms, mn, <- i0, -eq_self] <;> kernel_rfl
def XW.F : Fn := ⟨125, XW.ans, sd XW.ans Tryz.func125 [Ybn.F] XW.cuts [] (fun k x => by unfold XW.ans; split; (right; rename_i f c; have i0 := XW.r f c k; change _ = Option.map XW.enc _; simp only [XW.f.eq_2, mc, mb, ms, mn, <- i0, -eq_self]; kernel_rfl); exact .inl rfl) (fun x => by unfold XW.ans; split <;> rfl)⟩
def XG.l0 : Nat -> Int -> Int -> Bool -> (List Int) -> Int -> Int -> Int -> Int -> Bool -> (List Int) -> Bool -> (List Int) -> Bool -> (List T) -> Option (Int × Int × Bool × (List Int) × Bool × (List Int) × Bool × (List T) × Bool × (List Int) × Int × Int)
 | 0, _, _, _, _, _, _, _, _, _, _, _, _, _, _ => none
 | k + 1, d, e, f, g, h, i, j, l, m, n, o, p, w, c => cond (decide (e < d)) ((Yah.f k f g h i).bind fun b => cond (decide ((c).length + 1 < 5864062014805)) (XG.l0 k d (wrap64 (e + 1)) b.2.2.1 b.2.2.2.1 b.2.2.2.2.1 b.2.2.2.2.2 j l m n o p false (c ++ ([(.nums 5 .u8 b.1 b.2.1)] : List T))) (none)) (some (j, l, m, n, o, p, w, c, f, g, h, i))
def XG.f : Nat -> Int -> Int -> Int -> Int -> Int -> Bool -> (List Int) -> Int -> Int -> Option (Int × Int × Bool × (List Int) × Bool × (List Int) × Bool × (List T) × Bool × (List Int) × Int × Int)
 | 0, _, _, _, _, _, _, _, _, _ => none
 | k + 1, q, y, z, a0, a1, s, t, u, v => (XF.f k s t u v).bind fun b => (XF.f k b.2.1 b.2.2.1 b.2.2.2.1 b.2.2.2.2).bind fun a2 => (Yah.f k a2.2.1 a2.2.2.1 a2.2.2.2.1 a2.2.2.2.2).bind fun a => cond (!(decide (a.2.2.2.2.2 = 0))) (some (b.1, a2.1, a.1, a.2.1, true, ([] : List Int), true, ([] : List T), a.2.2.1, a.2.2.2.1, a.2.2.2.2.1, a.2.2.2.2.2)) ((Ybm.f k a.2.2.1 a.2.2.2.1 a.2.2.2.2.1 q).bind fun a3 => (XW.f k a3.1 a3.2.1).bind fun a4 => XG.l0 k a4 0 a.2.2.1 a.2.2.2.1 a3.2.2.1 a3.2.2.2 b.1 a2.1 a.1 a.2.1 a3.1 a3.2.1 true ([] : List T))
def XG.enc (r : Int × Int × Bool × (List Int) × Bool × (List Int) × Bool × (List T) × Bool × (List Int) × Int × Int) : Res := ⟨[.vals true [((.int .i64 r.1), true), ((.int .i64 r.2.1), true), ((.nums 5 .u8 r.2.2.1 r.2.2.2.1), true), ((.nums 5 .u8 r.2.2.2.2.1 r.2.2.2.2.2.1), true), ((.sl 24 r.2.2.2.2.2.2.1 r.2.2.2.2.2.2.2.1), true)]], [[((.nums 5 .u8 (e8 r).1 (e8 r).2.1), false), ((.int .i64 (e8 r).2.2.1), true), ((.int .i64 (e8 r).2.2.2), true)]]⟩
def XG.ans (k : Nat) : List Arg -> Ans
 | [.v (.agg [(.int .i64 q), (.int .i64 y), (.int .i64 z), (.int .i64 a0), (.int .i64 a1)]), .box [((.nums 5 .u8 s t), false), ((.int .i64 u), false), ((.int .i64 v), false)]] => ⟨XG.f k q y z a0 a1 s t u v, XG.enc⟩
 | _ => Ans.no
def XG.cuts : List (Nat × Keep) := [(250, ⟨[(1, some []), (4, some []), (5, some []), (43, some []), (44, some [])], [(1, [some [], some [], some []]), (4, [some [], some [], none, none, none]), (5, [some [], some [], none, none, none])]⟩)]
noncomputable def XG.K0 : List Fr := framesAt [true, true, true, true, false, true, false] (bodyOf Tryz.f92 XG.cuts) []
def XG.N0 (d : Int) (e : Int) (f : Bool) (g : List Int) (h : Int) (i : Int) (j : Int) (l : Int) (m : Bool) (n : List Int) (o : Bool) (p : List Int) (w : Bool) (c : List T) : St := stOf 55 55 2 [(1, .bp 1 0), (4, .bp 4 0), (5, .bp 5 0), (43, vi d), (44, vi e)] [(1, .cells [⟨(.nums 5 .u8 f g), [], false, none⟩, V.s (.int .i64 h), V.s (.int .i64 i)]), (4, .cells [V.s (.int .i64 0), V.s (.int .i64 0), ⟨(.nums 5 .u8 true ([] : List Int)), [.l 4 3], true, some (.l 4 3)⟩, ⟨(.nums 5 .u8 true ([] : List Int)), [.l 4 4], true, some (.l 4 4)⟩, ⟨(.sl 24 true ([] : List T)), [.l 4 5], true, some (.l 4 5)⟩]), (5, .cells [V.s (.int .i64 j), V.s (.int .i64 l), ⟨(.nums 5 .u8 m n), [.l 5 3], true, some (.l 5 3)⟩, ⟨(.nums 5 .u8 o p), [.l 5 4], true, some (.l 5 4)⟩, ⟨(.sl 24 w c), [.l 5 5], true, some (.l 5 5)⟩])]
theorem XG.r (q) (y) (z) (a0) (a1) (s) (t) (u) (v) (k) : (∀ d e f g h i j l m n o p w c, rounds Tryz.prog (tb [XF.F, Yah.F, Ybm.F, XW.F]) (finish Tryz.prog [true, true, true, true, true, false, true, true] Tryz.f92 [.v (.agg [(.int .i64 q), (.int .i64 y), (.int .i64 z), (.int .i64 a0), (.int .i64 a1)]), .box [((.nums 5 .u8 s t), false), ((.int .i64 u), false), ((.int .i64 v), false)]]) 100000 k XG.K0 (XG.N0 d e f g h i j l m n o p w c) = (XG.l0 k d e f g h i j l m n o p w c).map XG.enc) := by
 induction k with
 | zero => intros <;> rfl
 | succ k ih =>
  have i0 := ih
  intros <;> simp only [XG.l0.eq_2, mc, mb, ms, mn, <- i0, -eq_self] <;> kernel_rfl
def XG.F : Fn := ⟨92, XG.ans, sd XG.ans Tryz.func92 [XF.F, Yah.F, Ybm.F, XW.F] XG.cuts [true, true, true, true, true, false, true, true] (fun k x => by unfold XG.ans; split; (right; rename_i q y z a0 a1 s t u v; have i0 := XG.r q y z a0 a1 s t u v k; change _ = Option.map XG.enc _; simp only [XG.f.eq_2, mc, mb, ms, mn, <- i0, -eq_self]; kernel_rfl); exact .inl rfl) (fun x => by unfold XG.ans; split <;> rfl)⟩
def YbG.f : Nat -> Int -> Int -> Int -> Int -> Int -> Bool -> (List Int) -> Int -> Option (Int × Int × Bool × (List Int) × Bool × (List Int) × Bool × (List T) × Int × Int)
 | 0, _, _, _, _, _, _, _, _ => none
 | k + 1, b, c, d, e, f, g, h, i => (XE.f k b c d e f).bind fun j => cond (!j) (some (0, 0, true, ([] : List Int), true, ([] : List Int), true, ([] : List T), 0, 5)) ((XG.f k b c d e f g h i 0).bind fun a => cond (!(decide (a.2.2.2.2.2.2.2.2.2.2.2 = 0))) (some (0, 0, true, ([] : List Int), true, ([] : List Int), true, ([] : List T), 0, a.2.2.2.2.2.2.2.2.2.2.2)) (some (a.1, a.2.1, a.2.2.1, a.2.2.2.1, a.2.2.2.2.1, a.2.2.2.2.2.1, a.2.2.2.2.2.2.1, a.2.2.2.2.2.2.2.1, a.2.2.2.2.2.2.2.2.2.2.1, 0)))
def YbG.enc (r : Int × Int × Bool × (List Int) × Bool × (List Int) × Bool × (List T) × Int × Int) : Res := ⟨[.vals true [((.int .i64 r.1), true), ((.int .i64 r.2.1), true), ((.nums 5 .u8 r.2.2.1 r.2.2.2.1), true), ((.nums 5 .u8 r.2.2.2.2.1 r.2.2.2.2.2.1), true), ((.sl 24 r.2.2.2.2.2.2.1 r.2.2.2.2.2.2.2.1), true)], .vals false [((.int .i64 (e8 r).1), true)], .vals false [((.int .i64 (e8 r).2), true)]], []⟩
def YbG.ans (k : Nat) : List Arg -> Ans
 | [.v (.agg [(.int .i64 b), (.int .i64 c), (.int .i64 d), (.int .i64 e), (.int .i64 f)]), .v (.nums 5 .u8 g h), .v (.int .i64 i), .v (.fn 92 [])] => ⟨YbG.f k b c d e f g h i, YbG.enc⟩
 | _ => Ans.no
def YbG.F : Fn := ⟨91, YbG.ans, sd YbG.ans Tryz.func91 [XE.F, XG.F] [] [] (fun k x => by unfold YbG.ans; split; (right; change _ = Option.map YbG.enc _; simp only [YbG.f.eq_2, mc, mb, ms, mn, -eq_self]; kernel_rfl); exact .inl rfl) (fun x => by unfold YbG.ans; split <;> rfl)⟩
def YaU.f : Nat -> Int -> Int -> Int -> Int -> Int -> Bool -> (List Int) -> Int -> Option (Int × Int × Bool × (List Int) × Bool × (List Int) × Bool × (List T) × Int × Int)
 | 0, _, _, _, _, _, _, _, _ => none
 | k + 1, b, c, d, e, f, g, h, i => (YbG.f k b c d e f g h i).bind fun a => some (a.1, a.2.1, a.2.2.1, a.2.2.2.1, a.2.2.2.2.1, a.2.2.2.2.2.1, a.2.2.2.2.2.2.1, a.2.2.2.2.2.2.2.1, a.2.2.2.2.2.2.2.2.1, a.2.2.2.2.2.2.2.2.2)
def YaU.enc (r : Int × Int × Bool × (List Int) × Bool × (List Int) × Bool × (List T) × Int × Int) : Res := ⟨[.vals true [((.int .i64 r.1), true), ((.int .i64 r.2.1), true), ((.nums 5 .u8 r.2.2.1 r.2.2.2.1), true), ((.nums 5 .u8 r.2.2.2.2.1 r.2.2.2.2.2.1), true), ((.sl 24 r.2.2.2.2.2.2.1 r.2.2.2.2.2.2.2.1), true)], .vals false [((.int .i64 (e8 r).1), true)], .vals false [((.int .i64 (e8 r).2), true)]], []⟩
def YaU.ans (k : Nat) : List Arg -> Ans
 | [.v (.agg [(.int .i64 b), (.int .i64 c), (.int .i64 d), (.int .i64 e), (.int .i64 f)]), .v (.nums 5 .u8 g h), .v (.int .i64 i)] => ⟨YaU.f k b c d e f g h i, YaU.enc⟩
 | _ => Ans.no
def YaU.F : Fn := ⟨62, YaU.ans, sd YaU.ans Tryz.func62 [YbG.F] [] [] (fun k x => by unfold YaU.ans; split; (right; change _ = Option.map YaU.enc _; simp only [YaU.f.eq_2, mc, mb, ms, mn, -eq_self]; kernel_rfl); exact .inl rfl) (fun x => by unfold YaU.ans; split <;> rfl)⟩
def YaF.f : Nat -> Bool -> (List Int) -> Bool -> (List Int) -> Option Bool
 | 0, _, _, _, _ => none
 | k + 1, c, a, d, b => some (decide ((strOf a) = (strOf b)))
def YaF.enc (r : Bool) : Res := ⟨[.vals false [((.bool r), true)]], []⟩
def YaF.ans (k : Nat) : List Arg -> Ans
 | [.v (.nums 5 .u8 c a), .v (.nums 5 .u8 d b)] => ⟨YaF.f k c a d b, YaF.enc⟩
 | _ => Ans.no
def YaF.F : Fn := ⟨129, YaF.ans, sd YaF.ans Tryz.func129 [] [] [] (fun k x => by unfold YaF.ans; split; (right; change _ = Option.map YaF.enc _; simp only [YaF.f.eq_2, mc, mb, ms, mn, -eq_self]; kernel_rfl); exact .inl rfl) (fun x => by unfold YaF.ans; split <;> rfl)⟩
def YbH.f : Nat -> Int -> Int -> Int -> Bool -> (List Int) -> Bool -> (List Int) -> Int -> Int -> Bool -> (List Int) -> Bool -> (List Int) -> Bool -> (List T) -> Option Bool
 | 0, _, _, _, _, _, _, _, _, _, _, _, _, _, _, _ => none
 | k + 1, a, b, i, c, d, j, l, e, f, g, h, m, n, o, p => cond (decide (e < a)) (cond (decide (f = (wrap64 (b - 1)))) ((YaF.f k g h c d).bind fun q => some q) (some false)) (some false)
def YbH.enc (r : Bool) : Res := ⟨[.vals false [((.bool r), true)]], []⟩
def YbH.ans (k : Nat) : List Arg -> Ans
 | [.v (.agg [(.int .i64 a), (.int .i64 b), (.int .i64 i), (.nums 5 .u8 c d), (.nums 5 .u8 j l), (.int .i64 e), (.int .i64 f), (.nums 5 .u8 g h), (.nums 5 .u8 m n), (.sl 24 o p)])] => ⟨YbH.f k a b i c d j l e f g h m n o p, YbH.enc⟩
 | _ => Ans.no
def YbH.F : Fn := ⟨127, YbH.ans, sd YbH.ans Tryz.func127 [YaF.F] [] [] (fun k x => by unfold YbH.ans; split; (right; change _ = Option.map YbH.enc _; simp only [YbH.f.eq_2, mc, mb, ms, mn, -eq_self]; kernel_rfl); exact .inl rfl) (fun x => by unfold YbH.ans; split <;> rfl)⟩
def Yar.f : Nat -> Int -> Int -> Int -> Int -> Int -> Bool -> (List Int) -> Int -> Int -> Option (Int × Int × Int × Bool × (List Int) × Bool × (List Int) × Int × Int × Bool × (List Int) × Bool × (List Int) × Bool × (List T) × Bool × (List Int) × Int × Int)
 | 0, _, _, _, _, _, _, _, _, _ => none
 | k + 1, g, j, l, m, n, o, p, q, s => (XF.f k o p q s).bind fun e => (XF.f k e.2.1 e.2.2.1 e.2.2.2.1 e.2.2.2.2).bind fun d => (XD.f k d.2.1 d.2.2.1 d.2.2.2.1 d.2.2.2.2 (!(decide (d.1 = 0))) 5).bind fun h => (Yai.f k h.1 h.2.1 h.2.2.1 h.2.2.2 g 5).bind fun f => (Yah.f k f.2.1 f.2.2.1 f.2.2.2.1 f.2.2.2.2).bind fun b => (Yah.f k b.2.2.1 b.2.2.2.1 b.2.2.2.2.1 b.2.2.2.2.2).bind fun c => (XG.f k g j l m n c.2.2.1 c.2.2.2.1 c.2.2.2.2.1 c.2.2.2.2.2).bind fun a => (YbH.f k e.1 d.1 f.1 b.1 b.2.1 c.1 c.2.1 a.1 a.2.1 a.2.2.1 a.2.2.2.1 a.2.2.2.2.1 a.2.2.2.2.2.1 a.2.2.2.2.2.2.1 a.2.2.2.2.2.2.2.1).bind fun t => (XD.f k a.2.2.2.2.2.2.2.2.1 a.2.2.2.2.2.2.2.2.2.1 a.2.2.2.2.2.2.2.2.2.2.1 a.2.2.2.2.2.2.2.2.2.2.2 t 6).bind fun i => some (e.1, d.1, f.1, b.1, b.2.1, c.1, c.2.1, a.1, a.2.1, a.2.2.1, a.2.2.2.1, a.2.2.2.2.1, a.2.2.2.2.2.1, a.2.2.2.2.2.2.1, a.2.2.2.2.2.2.2.1, i.1, i.2.1, i.2.2.1, i.2.2.2)
def Yar.enc (r : Int × Int × Int × Bool × (List Int) × Bool × (List Int) × Int × Int × Bool × (List Int) × Bool × (List Int) × Bool × (List T) × Bool × (List Int) × Int × Int) : Res := ⟨[.vals true [((.int .i64 r.1), true), ((.int .i64 r.2.1), true), ((.int .i64 r.2.2.1), true), ((.nums 5 .u8 r.2.2.2.1 r.2.2.2.2.1), true), ((.nums 5 .u8 r.2.2.2.2.2.1 r.2.2.2.2.2.2.1), true), ((.int .i64 r.2.2.2.2.2.2.2.1), true), ((.int .i64 (e8 r).1), true), ((.nums 5 .u8 (e8 r).2.1 (e8 r).2.2.1), true), ((.nums 5 .u8 (e8 r).2.2.2.1 (e8 r).2.2.2.2.1), true), ((.sl 24 (e8 r).2.2.2.2.2.1 (e8 r).2.2.2.2.2.2.1), true)]], [[((.nums 5 .u8 (e8 r).2.2.2.2.2.2.2.1 (e8 (e8 r)).1), false), ((.int .i64 (e8 (e8 r)).2.1), true), ((.int .i64 (e8 (e8 r)).2.2), true)]]⟩
def Yar.ans (k : Nat) : List Arg -> Ans
 | [.v (.agg [(.int .i64 g), (.int .i64 j), (.int .i64 l), (.int .i64 m), (.int .i64 n)]), .box [((.nums 5 .u8 o p), false), ((.int .i64 q), false), ((.int .i64 s), false)]] => ⟨Yar.f k g j l m n o p q s, Yar.enc⟩
 | _ => Ans.no
def Yar.F : Fn := ⟨94, Yar.ans, sd Yar.ans Tryz.func94 [XF.F, Yah.F, Yai.F, XD.F, XG.F, YbH.F] [] [true, true, true, true, true, true, true, true, true, true, false, true, true] (fun k x => by unfold Yar.ans; split; (right; change _ = Option.map Yar.enc _; simp only [Yar.f.eq_2, mc, mb, ms, mn, -eq_self]; kernel_rfl); exact .inl rfl) (fun x => by unfold Yar.ans; split <;> rfl)⟩
def YbI.f : Nat -> Int -> Int -> Int -> Int -> Int -> Bool -> (List Int) -> Int -> Option (Int × Int × Int × Bool × (List Int) × Bool × (List Int) × Int × Int × Bool × (List Int) × Bool × (List Int) × Bool × (List T) × Int × Int)
 | 0, _, _, _, _, _, _, _, _ => none
 | k + 1, b, c, d, e, f, g, h, i => (XE.f k b c d e f).bind fun j => cond (!j) (some (0, 0, 0, true, ([] : List Int), true, ([] : List Int), 0, 0, true, ([] : List Int), true, ([] : List Int), true, ([] : List T), 0, 5)) ((Yar.f k b c d e f g h i 0).bind fun a => cond (!(decide (a.2.2.2.2.2.2.2.2.2.2.2.2.2.2.2.2.2.2 = 0))) (some (0, 0, 0, true, ([] : List Int), true, ([] : List Int), 0, 0, true, ([] : List Int), true, ([] : List Int), true, ([] : List T), 0, a.2.2.2.2.2.2.2.2.2.2.2.2.2.2.2.2.2.2)) (some (a.1, a.2.1, a.2.2.1, a.2.2.2.1, a.2.2.2.2.1, a.2.2.2.2.2.1, a.2.2.2.2.2.2.1, a.2.2.2.2.2.2.2.1, a.2.2.2.2.2.2.2.2.1, a.2.2.2.2.2.2.2.2.2.1, a.2.2.2.2.2.2.2.2.2.2.1, a.2.2.2.2.2.2.2.2.2.2.2.1, a.2.2.2.2.2.2.2.2.2.2.2.2.1, a.2.2.2.2.2.2.2.2.2.2.2.2.2.1, a.2.2.2.2.2.2.2.2.2.2.2.2.2.2.1, a.2.2.2.2.2.2.2.2.2.2.2.2.2.2.2.2.2.1, 0)))
def YbI.enc (r : Int × Int × Int × Bool × (List Int) × Bool × (List Int) × Int × Int × Bool × (List Int) × Bool × (List Int) × Bool × (List T) × Int × Int) : Res := ⟨[.vals true [((.int .i64 r.1), true), ((.int .i64 r.2.1), true), ((.int .i64 r.2.2.1), true), ((.nums 5 .u8 r.2.2.2.1 r.2.2.2.2.1), true), ((.nums 5 .u8 r.2.2.2.2.2.1 r.2.2.2.2.2.2.1), true), ((.int .i64 r.2.2.2.2.2.2.2.1), true), ((.int .i64 (e8 r).1), true), ((.nums 5 .u8 (e8 r).2.1 (e8 r).2.2.1), true), ((.nums 5 .u8 (e8 r).2.2.2.1 (e8 r).2.2.2.2.1), true), ((.sl 24 (e8 r).2.2.2.2.2.1 (e8 r).2.2.2.2.2.2.1), true)], .vals false [((.int .i64 (e8 r).2.2.2.2.2.2.2.1), true)], .vals false [((.int .i64 (e8 (e8 r))), true)]], []⟩
def YbI.ans (k : Nat) : List Arg -> Ans
 | [.v (.agg [(.int .i64 b), (.int .i64 c), (.int .i64 d), (.int .i64 e), (.int .i64 f)]), .v (.nums 5 .u8 g h), .v (.int .i64 i), .v (.fn 94 [])] => ⟨YbI.f k b c d e f g h i, YbI.enc⟩
 | _ => Ans.no
def YbI.F : Fn := ⟨93, YbI.ans, sd YbI.ans Tryz.func93 [XE.F, Yar.F] [] [] (fun k x => by unfold YbI.ans; split; (right; change _ = Option.map YbI.enc _; simp only [YbI.f.eq_2, mc, mb, ms, mn, -eq_self]; kernel_rfl); exact .inl rfl) (fun x => by unfold YbI.ans; split <;> rfl)⟩
def YaV.f : Nat -> Int -> Int -> Int -> Int -> Int -> Bool -> (List Int) -> Int -> Option (Int × Int × Int × Bool × (List Int) × Bool × (List Int) × Int × Int × Bool × (List Int) × Bool × (List Int) × Bool × (List T) × Int × Int)
 | 0, _, _, _, _, _, _, _, _ => none
 | k + 1, b, c, d, e, f, g, h, i => (YbI.f k b c d e f g h i).bind fun a => some (a.1, a.2.1, a.2.2.1, a.2.2.2.1, a.2.2.2.2.1, a.2.2.2.2.2.1, a.2.2.2.2.2.2.1, a.2.2.2.2.2.2.2.1, a.2.2.2.2.2.2.2.2.1, a.2.2.2.2.2.2.2.2.2.1, a.2.2.2.2.2.2.2.2.2.2.1, a.2.2.2.2.2.2.2.2.2.2.2.1, a.2.2.2.2.2.2.2.2.2.2.2.2.1, a.2.2.2.2.2.2.2.2.2.2.2.2.2.1, a.2.2.2.2.2.2.2.2.2.2.2.2.2.2.1, a.2.2.2.2.2.2.2.2.2.2.2.2.2.2.2.1, a.2.2.2.2.2.2.2.2.2.2.2.2.2.2.2.2)
def YaV.enc (r : Int × Int × Int × Bool × (List Int) × Bool × (List Int) × Int × Int × Bool × (List Int) × Bool × (List Int) × Bool × (List T) × Int × Int) : Res := ⟨[.vals true [((.int .i64 r.1), true), ((.int .i64 r.2.1), true), ((.int .i64 r.2.2.1), true), ((.nums 5 .u8 r.2.2.2.1 r.2.2.2.2.1), true), ((.nums 5 .u8 r.2.2.2.2.2.1 r.2.2.2.2.2.2.1), true), ((.int .i64 r.2.2.2.2.2.2.2.1), true), ((.int .i64 (e8 r).1), true), ((.nums 5 .u8 (e8 r).2.1 (e8 r).2.2.1), true), ((.nums 5 .u8 (e8 r).2.2.2.1 (e8 r).2.2.2.2.1), true), ((.sl 24 (e8 r).2.2.2.2.2.1 (e8 r).2.2.2.2.2.2.1), true)], .vals false [((.int .i64 (e8 r).2.2.2.2.2.2.2.1), true)], .vals false [((.int .i64 (e8 (e8 r))), true)]], []⟩
def YaV.ans (k : Nat) : List Arg -> Ans
 | [.v (.agg [(.int .i64 b), (.int .i64 c), (.int .i64 d), (.int .i64 e), (.int .i64 f)]), .v (.nums 5 .u8 g h), .v (.int .i64 i)] => ⟨YaV.f k b c d e f g h i, YaV.enc⟩
 | _ => Ans.no
def YaV.F : Fn := ⟨63, YaV.ans, sd YaV.ans Tryz.func63 [YbI.F] [] [] (fun k x => by unfold YaV.ans; split; (right; change _ = Option.map YaV.enc _; simp only [YaV.f.eq_2, mc, mb, ms, mn, -eq_self]; kernel_rfl); exact .inl rfl) (fun x => by unfold YaV.ans; split <;> rfl)⟩
def YbJ.f : Nat -> Bool -> (List Int) -> Int -> Int -> Option (Bool × (List Int) × Int × Int)
 | 0, _, _, _, _ => none
 | k + 1, b, c, e, f => (Xs.f k b c e).bind fun a => cond (!(decide (a.2.2 = 0))) (some (true, ([] : List Int), 0, a.2.2)) (cond (decide (a.1 > f)) (some (true, ([] : List Int), 0, 3)) ((Yas.f k b c a.2.1 a.1).bind fun d => some (d.1, d.2.1, d.2.2.1, d.2.2.2)))
def YbJ.enc (r : Bool × (List Int) × Int × Int) : Res := ⟨[.vals false [((.nums 5 .u8 r.1 r.2.1), true)], .vals false [((.int .i64 r.2.2.1), true)], .vals false [((.int .i64 r.2.2.2), true)]], []⟩
def YbJ.ans (k : Nat) : List Arg -> Ans
 | [.v (.nums 5 .u8 b c), .v (.int .i64 e), .v (.int .i64 f)] => ⟨YbJ.f k b c e f, YbJ.enc⟩
 | _ => Ans.no
def YbJ.F : Fn := ⟨144, YbJ.ans, sd YbJ.ans Tryz.func144 [Yas.F, Xs.F] [] [] (fun k x => by unfold YbJ.ans; split; (right; change _ = Option.map YbJ.enc _; simp only [YbJ.f.eq_2, mc, mb, ms, mn, -eq_self]; kernel_rfl); exact .inl rfl) (fun x => by unfold YbJ.ans; split <;> rfl)⟩
def Yax.f : Nat -> Bool -> (List Int) -> Int -> Int -> Int -> Option (Bool × (List Int) × Bool × (List Int) × Int × Int)
 | 0, _, _, _, _, _ => none
 | k + 1, a, b, c, d, f => cond (!(decide (d = 0))) (some (true, ([] : List Int), a, b, c, d)) ((YbJ.f k a b c f).bind fun e => some (e.1, e.2.1, a, b, e.2.2.1, e.2.2.2))
def Yax.enc (r : Bool × (List Int) × Bool × (List Int) × Int × Int) : Res := ⟨[.vals false [((.nums 5 .u8 r.1 r.2.1), true)]], [[((.nums 5 .u8 r.2.2.1 r.2.2.2.1), false), ((.int .i64 r.2.2.2.2.1), true), ((.int .i64 r.2.2.2.2.2), true)]]⟩
def Yax.ans (k : Nat) : List Arg -> Ans
 | [.box [((.nums 5 .u8 a b), false), ((.int .i64 c), false), ((.int .i64 d), false)], .v (.int .i64 f)] => ⟨Yax.f k a b c d f, Yax.enc⟩
 | _ => Ans.no
def Yax.F : Fn := ⟨128, Yax.ans, sd Yax.ans Tryz.func128 [YbJ.F] [] [true, false, true, true] (fun k x => by unfold Yax.ans; split; (right; change _ = Option.map Yax.enc _; simp only [Yax.f.eq_2, mc, mb, ms, mn, -eq_self]; kernel_rfl); exact .inl rfl) (fun x => by unfold Yax.ans; split <;> rfl)⟩
def YaW.f : Nat -> Option (Bool × List Int)
 | 0 => none
 | k + 1 => some (false, ([1779033703, 3144134277, 1013904242, 2773480762, 1359893119, 2600822924, 528734635, 1541459225] : List Int))
def YaW.enc (r : Bool × List Int) : Res := ⟨[.vals false [((.nums 3 .i64 r.1 r.2), true)]], []⟩
def YaW.ans (k : Nat) : List Arg -> Ans
 | [] => ⟨YaW.f k, YaW.enc⟩
 | _ => Ans.no
def YaW.F : Fn := ⟨153, YaW.ans, sd YaW.ans Tryz.func153 [] [] [] (fun k x => by unfold YaW.ans; split; (right; change _ = Option.map YaW.enc _; simp only [YaW.f.eq_2, mc, mb, ms, mn, -eq_self]; kernel_rfl); exact .inl rfl) (fun x => by unfold YaW.ans; split <;> rfl)⟩
mutual
def Xv.l0 : Nat -> Bool -> (List Int) -> (List Int) -> Option (Bool × List Int)
 | 0, _, _, _ => none
 | k + 1, c, b, a => cond (!(decide ((Int.tmod ((a).length : Int) 64) = 56))) (cond (decide ((a).length + 1 < 140737488355328)) (Xv.l0 k c b (a ++ ([0] : List Int))) (none)) (Xv.l1 k c b a 7)
def Xv.l1 : Nat -> Bool -> (List Int) -> (List Int) -> Int -> Option (Bool × List Int)
 | 0, _, _, _, _ => none
 | k + 1, c, b, a, d => cond (decide (d >= 0)) (cond (decide ((0 : Int) <= (wrap64 ((8 : Int) * d)))) (cond (decide ((a).length + 1 < 140737488355328)) (Xv.l1 k c b (a ++ ([(((shrI .i64 (wrap64 ((8 : Int) * ((b).length : Int))) (wrap64 ((8 : Int) * d)))) % 256)] : List Int)) (wrap64 (d - 1))) (none)) (none)) (some (false, a))
end
def Xv.f : Nat -> Bool -> (List Int) -> Option (Bool × List Int)
 | 0, _, _ => none
 | k + 1, e, f => (Yat.f k e f).bind fun g => cond (decide ((g.2).length + 1 < 140737488355328)) (Xv.l0 k e f (g.2 ++ ([128] : List Int))) (none)
def Xv.enc (r : Bool × List Int) : Res := ⟨[.vals false [((.nums 5 .u8 r.1 r.2), true)]], []⟩
def Xv.ans (k : Nat) : List Arg -> Ans
 | [.v (.nums 5 .u8 e f)] => ⟨Xv.f k e f, Xv.enc⟩
 | _ => Ans.no
def Xv.cuts : List (Nat × Keep) := [(28, ⟨[(0, some []), (3, none)], []⟩), (122, ⟨[(0, some []), (3, none), (4, some [])], []⟩)]
noncomputable def Xv.K0 : List Fr := framesAt [true, true, false, false] (bodyOf Tryz.f154 Xv.cuts) []
def Xv.N0 (c : Bool) (b : List Int) (a : List Int) : St := stOf 31 31 1 [(0, .val ⟨(.nums 5 .u8 c b), [], false, none⟩), (3, .val ⟨(.nums 5 .u8 false a), [.l 3 0], true, some (.l 3 0)⟩)] []
noncomputable def Xv.K1 : List Fr := framesAt [true, true, true, false, true, false] (bodyOf Tryz.f154 Xv.cuts) []
def Xv.N1 (c : Bool) (b : List Int) (a : List Int) (d : Int) : St := stOf 31 31 1 [(0, .val ⟨(.nums 5 .u8 c b), [], false, none⟩), (3, .val ⟨(.nums 5 .u8 false a), [.l 3 0], true, some (.l 3 0)⟩), (4, vi d)] []
theorem Xv.r (e) (f) (k) : (∀ c b a, rounds Tryz.prog (tb [Yat.F]) (finish Tryz.prog [] Tryz.f154 [.v (.nums 5 .u8 e f)]) 100000 k Xv.K0 (Xv.N0 c b a) = (Xv.l0 k c b a).map Xv.enc) /\ (∀ c b a d, rounds Tryz.prog (tb [Yat.F]) (finish Tryz.prog [] Tryz.f154 [.v (.nums 5 .u8 e f)]) 100000 k Xv.K1 (Xv.N1 c b a d) = (Xv.l1 k c b a d).map Xv.enc) := by
 induction k with
 | zero => and_intros <;> intros <;> rfl
 | succ k ih =>
  have ⟨i0, i1⟩ := ih
  and_intros <;> intros <;> simp only [Xv.l0.eq_2, Xv.l1.eq_2, mc, mb, ms, mn, <- i0, <- i1, -eq_self] <;> kernel_rfl
def Xv.F : Fn := ⟨154, Xv.ans, sd Xv.ans Tryz.func154 [Yat.F] Xv.cuts [] (fun k x => by unfold Xv.ans; split; (right; rename_i e f; have ⟨i0, i1⟩ := Xv.r e f k; change _ = Option.map Xv.enc _; simp only [Xv.f.eq_2, mc, mb, ms, mn, <- i0, <- i1, -eq_self]; kernel_rfl); exact .inl rfl) (fun x => by unfold Xv.ans; split <;> rfl)⟩
def Ybo.f : Nat -> Option (Bool × List Int)
 | 0 => none
 | k + 1 => some (false, ([1116352408, 1899447441, 3049323471, 3921009573, 961987163, 1508970993, 2453635748, 2870763221, 3624381080, 310598401, 607225278, 1426881987, 1925078388, 2162078206, 2614888103, 3248222580, 3835390401, 4022224774, 264347078, 604807628, 770255983, 1249150122, 1555081692, 1996064986, 2554220882, 2821834349, 2952996808, 3210313671, 3336571891, 3584528711, 113926993, 338241895, 666307205, 773529912, 1294757372, 1396182291, 1695183700, 1986661051, 2177026350, 2456956037, 2730485921, 2820302411, 3259730800, 3345764771, 3516065817, 3600352804, 4094571909, 275423344, 430227734, 506948616, 659060556, 883997877, 958139571, 1322822218, 1537002063, 1747873779, 1955562222, 2024104815, 2227730452, 2361852424, 2428436474, 2756734187, 3204031479, 3329325298] : List Int))
def Ybo.enc (r : Bool × List Int) : Res := ⟨[.vals false [((.nums 3 .i64 r.1 r.2), true)]], []⟩
def Ybo.ans (k : Nat) : List Arg -> Ans
 | [] => ⟨Ybo.f k, Ybo.enc⟩
 | _ => Ans.no
def Ybo.F : Fn := ⟨157, Ybo.ans, sd Ybo.ans Tryz.func157 [] [] [] (fun k x => by unfold Ybo.ans; split; (right; change _ = Option.map Ybo.enc _; simp only [Ybo.f.eq_2, mc, mb, ms, mn, -eq_self]; kernel_rfl); exact .inl rfl) (fun x => by unfold Ybo.ans; split <;> rfl)⟩
def Yao.f : Nat -> Int -> Int -> Option Int
 | 0, _, _ => none
 | k + 1, b, a => (Yau.f k b).bind fun c => cond (!c) (some 0) ((Xi.f k a 0 31).bind fun d => cond (!d) (some 0) (cond (decide ((0 : Int) <= a)) (cond (decide ((0 : Int) <= (wrap64 ((32 : Int) - a)))) (some (Go.bits .and .i64 (Go.bits .or .i64 (shrI .i64 b a) (shlI .i64 b (wrap64 ((32 : Int) - a)))) 4294967295)) (none)) (none)))
def Yao.enc (r : Int) : Res := ⟨[.vals false [((.int .i64 r), true)]], []⟩
def Yao.ans (k : Nat) : List Arg -> Ans
 | [.v (.int .i64 b), .v (.int .i64 a)] => ⟨Yao.f k b a, Yao.enc⟩
 | _ => Ans.no
def Yao.F : Fn := ⟨158, Yao.ans, sd Yao.ans Tryz.func158 [Xi.F, Yau.F] [] [] (fun k x => by unfold Yao.ans; split; (right; change _ = Option.map Yao.enc _; simp only [Yao.f.eq_2, mc, mb, ms, mn, -eq_self]; kernel_rfl); exact .inl rfl) (fun x => by unfold Yao.ans; split <;> rfl)⟩
def Xb.b {R : Type} (ret : Bool × List Int -> Option R) (j0 : Bool -> (List Int) -> Bool -> (List Int) -> Bool -> (List Int) -> Int -> Int -> Option R) (j1 : Bool -> (List Int) -> Bool -> (List Int) -> Bool -> (List Int) -> Int -> (List Int) -> Option R) (j2 : Bool -> (List Int) -> Bool -> (List Int) -> Int -> (List Int) -> Option R) (j3 : Bool -> (List Int) -> Bool -> (List Int) -> Int -> (List Int) -> (List Int) -> Option R) (j4 : Bool -> (List Int) -> (List Int) -> Int -> (List Int) -> Option R) (k : Nat) (s : Bool) (q : List Int) (v : Bool) (u : List Int) : Option R :=
 cond (!(decide (((q).length : Int) = 8))) (ret (true, ([] : List Int))) (cond (!(decide (((u).length : Int) = 64))) (ret (true, ([] : List Int))) (j0 s q v u s q ((q).length : Int) 0))
def Xb.l0b {R : Type} (ret : Bool × List Int -> Option R) (j0 : Bool -> (List Int) -> Bool -> (List Int) -> Bool -> (List Int) -> Int -> Int -> Option R) (j1 : Bool -> (List Int) -> Bool -> (List Int) -> Bool -> (List Int) -> Int -> (List Int) -> Option R) (j2 : Bool -> (List Int) -> Bool -> (List Int) -> Int -> (List Int) -> Option R) (j3 : Bool -> (List Int) -> Bool -> (List Int) -> Int -> (List Int) -> (List Int) -> Option R) (j4 : Bool -> (List Int) -> (List Int) -> Int -> (List Int) -> Option R) (k : Nat) (c : Bool) (b : List Int) (m : Bool) (l : List Int) (a3 : Bool) (a0 : List Int) (a2 : Int) (z : Int) : Option R :=
 cond (decide (z < a2)) (cond (decide ((0 : Int) <= z)) (cond (decide (z < ((a0).length : Int))) ((Yau.f k (rdI a0 z)).bind fun a6 => cond (!a6) (ret (true, ([] : List Int))) (j0 c b m l a3 a0 a2 (wrap64 (z + 1)))) (none)) (none)) ((Ybo.f k).bind fun a6 => j1 c b m l a6.1 a6.2 0 ([0, 0, 0, 0, 0, 0, 0, 0, 0, 0, 0, 0, 0, 0, 0, 0, 0, 0, 0, 0, 0, 0, 0, 0, 0, 0, 0, 0, 0, 0, 0, 0, 0, 0, 0, 0, 0, 0, 0, 0, 0, 0, 0, 0, 0, 0, 0, 0, 0, 0, 0, 0, 0, 0, 0, 0, 0, 0, 0, 0, 0, 0, 0, 0] : List Int))
def Xb.l1b {R : Type} (ret : Bool × List Int -> Option R) (j0 : Bool -> (List Int) -> Bool -> (List Int) -> Bool -> (List Int) -> Int -> Int -> Option R) (j1 : Bool -> (List Int) -> Bool -> (List Int) -> Bool -> (List Int) -> Int -> (List Int) -> Option R) (j2 : Bool -> (List Int) -> Bool -> (List Int) -> Int -> (List Int) -> Option R) (j3 : Bool -> (List Int) -> Bool -> (List Int) -> Int -> (List Int) -> (List Int) -> Option R) (j4 : Bool -> (List Int) -> (List Int) -> Int -> (List Int) -> Option R) (k : Nat) (c : Bool) (b : List Int) (m : Bool) (l : List Int) (g : Bool) (f : List Int) (p : Int) (d : List Int) : Option R :=
 cond (decide (p < 16)) (cond (decide ((0 : Int) <= (wrap64 ((4 : Int) * p)))) (cond (decide ((wrap64 ((4 : Int) * p)) < ((l).length : Int))) (cond (decide ((0 : Int) <= (wrap64 ((wrap64 ((4 : Int) * p)) + 1)))) (cond (decide ((wrap64 ((wrap64 ((4 : Int) * p)) + 1)) < ((l).length : Int))) (cond (decide ((0 : Int) <= (wrap64 ((wrap64 ((4 : Int) * p)) + 2)))) (cond (decide ((wrap64 ((wrap64 ((4 : Int) * p)) + 2)) < ((l).length : Int))) (cond (decide ((0 : Int) <= (wrap64 ((wrap64 ((4 : Int) * p)) + 3)))) (cond (decide ((wrap64 ((wrap64 ((4 : Int) * p)) + 3)) < ((l).length : Int))) (cond (decide ((0 : Int) <= p)) (cond (decide (p < 64)) (j1 c b m l g f (wrap64 (p + 1)) ((d).set (p).toNat (Go.bits .or .i64 (Go.bits .or .i64 (Go.bits .or .i64 (shlI .i64 (wrap64 ((rdI l (wrap64 ((4 : Int) * p))))) 24) (shlI .i64 (wrap64 ((rdI l (wrap64 ((wrap64 ((4 : Int) * p)) + 1))))) 16)) (shlI .i64 (wrap64 ((rdI l (wrap64 ((wrap64 ((4 : Int) * p)) + 2))))) 8)) (wrap64 ((rdI l (wrap64 ((wrap64 ((4 : Int) * p)) + 3)))))))) (none)) (none)) (none)) (none)) (none)) (none)) (none)) (none)) (none)) (none)) (j2 c b g f 16 d)
def Xb.l2b {R : Type} (ret : Bool × List Int -> Option R) (j0 : Bool -> (List Int) -> Bool -> (List Int) -> Bool -> (List Int) -> Int -> Int -> Option R) (j1 : Bool -> (List Int) -> Bool -> (List Int) -> Bool -> (List Int) -> Int -> (List Int) -> Option R) (j2 : Bool -> (List Int) -> Bool -> (List Int) -> Int -> (List Int) -> Option R) (j3 : Bool -> (List Int) -> Bool -> (List Int) -> Int -> (List Int) -> (List Int) -> Option R) (j4 : Bool -> (List Int) -> (List Int) -> Int -> (List Int) -> Option R) (k : Nat) (c : Bool) (b : List Int) (g : Bool) (f : List Int) (o : Int) (d : List Int) : Option R :=
 cond (decide (o < 64)) (cond (decide ((0 : Int) <= (wrap64 (o - 15)))) (cond (decide ((wrap64 (o - 15)) < 64)) (cond (decide ((0 : Int) <= (wrap64 (o - 2)))) (cond (decide ((wrap64 (o - 2)) < 64)) ((Yao.f k (rdI d (wrap64 (o - 15))) 7).bind fun a6 => (Yao.f k (rdI d (wrap64 (o - 15))) 18).bind fun b3 => (Yao.f k (rdI d (wrap64 (o - 2))) 17).bind fun b4 => (Yao.f k (rdI d (wrap64 (o - 2))) 19).bind fun b5 => cond (decide ((0 : Int) <= (wrap64 (o - 16)))) (cond (decide ((wrap64 (o - 16)) < 64)) (cond (decide ((0 : Int) <= (wrap64 (o - 7)))) (cond (decide ((wrap64 (o - 7)) < 64)) (cond (decide ((0 : Int) <= o)) (cond (decide (o < 64)) (j2 c b g f (wrap64 (o + 1)) ((d).set (o).toNat (Go.bits .and .i64 (wrap64 ((wrap64 ((wrap64 ((rdI d (wrap64 (o - 16))) + (Go.bits .xor .i64 (Go.bits .xor .i64 a6 b3) (shrI .i64 (rdI d (wrap64 (o - 15))) 3)))) + (rdI d (wrap64 (o - 7))))) + (Go.bits .xor .i64 (Go.bits .xor .i64 b4 b5) (shrI .i64 (rdI d (wrap64 (o - 2))) 10)))) 4294967295))) (none)) (none)) (none)) (none)) (none)) (none)) (none)) (none)) (none)) (none)) (j3 c b g f 0 d ((b).take 8 ++ (([0, 0, 0, 0, 0, 0, 0, 0] : List Int)).drop (b).length))
def Xb.l3b {R : Type} (ret : Bool × List Int -> Option R) (j0 : Bool -> (List Int) -> Bool -> (List Int) -> Bool -> (List Int) -> Int -> Int -> Option R) (j1 : Bool -> (List Int) -> Bool -> (List Int) -> Bool -> (List Int) -> Int -> (List Int) -> Option R) (j2 : Bool -> (List Int) -> Bool -> (List Int) -> Int -> (List Int) -> Option R) (j3 : Bool -> (List Int) -> Bool -> (List Int) -> Int -> (List Int) -> (List Int) -> Option R) (j4 : Bool -> (List Int) -> (List Int) -> Int -> (List Int) -> Option R) (k : Nat) (c : Bool) (b : List Int) (g : Bool) (f : List Int) (w : Int) (d : List Int) (i : List Int) : Option R :=
 cond (decide (w < 64)) ((Yao.f k (rdI i 4) 6).bind fun a6 => (Yao.f k (rdI i 4) 11).bind fun b3 => (Yao.f k (rdI i 4) 25).bind fun b4 => cond (decide ((0 : Int) <= w)) (cond (decide (w < ((f).length : Int))) (cond (decide ((0 : Int) <= w)) (cond (decide (w < 64)) ((Yao.f k (rdI i 0) 2).bind fun b5 => (Yao.f k (rdI i 0) 13).bind fun c5 => (Yao.f k (rdI i 0) 22).bind fun c6 => j3 c b g f (wrap64 (w + 1)) d ([(Go.bits .and .i64 (wrap64 ((wrap64 ((wrap64 ((wrap64 ((wrap64 ((rdI i 7) + (Go.bits .xor .i64 (Go.bits .xor .i64 a6 b3) b4))) + (Go.bits .or .i64 (Go.bits .and .i64 (rdI i 4) (rdI i 5)) (Go.bits .and .i64 (Go.bits .xor .i64 (rdI i 4) 4294967295) (rdI i 6))))) + (rdI f w))) + (rdI d w))) + (wrap64 ((Go.bits .xor .i64 (Go.bits .xor .i64 b5 c5) c6) + (Go.bits .or .i64 (Go.bits .or .i64 (Go.bits .and .i64 (rdI i 0) (rdI i 1)) (Go.bits .and .i64 (rdI i 0) (rdI i 2))) (Go.bits .and .i64 (rdI i 1) (rdI i 2))))))) 4294967295), (rdI i 0), (rdI i 1), (rdI i 2), (Go.bits .and .i64 (wrap64 ((rdI i 3) + (wrap64 ((wrap64 ((wrap64 ((wrap64 ((rdI i 7) + (Go.bits .xor .i64 (Go.bits .xor .i64 a6 b3) b4))) + (Go.bits .or .i64 (Go.bits .and .i64 (rdI i 4) (rdI i 5)) (Go.bits .and .i64 (Go.bits .xor .i64 (rdI i 4) 4294967295) (rdI i 6))))) + (rdI f w))) + (rdI d w))))) 4294967295), (rdI i 4), (rdI i 5), (rdI i 6)] : List Int)) (none)) (none)) (none)) (none)) (j4 c b ([] : List Int) 0 i)
def Xb.l4b {R : Type} (ret : Bool × List Int -> Option R) (j0 : Bool -> (List Int) -> Bool -> (List Int) -> Bool -> (List Int) -> Int -> Int -> Option R) (j1 : Bool -> (List Int) -> Bool -> (List Int) -> Bool -> (List Int) -> Int -> (List Int) -> Option R) (j2 : Bool -> (List Int) -> Bool -> (List Int) -> Int -> (List Int) -> Option R) (j3 : Bool -> (List Int) -> Bool -> (List Int) -> Int -> (List Int) -> (List Int) -> Option R) (j4 : Bool -> (List Int) -> (List Int) -> Int -> (List Int) -> Option R) (k : Nat) (c : Bool) (b : List Int) (a1 : List Int) (y : Int) (i : List Int) : Option R :=
 cond (decide (y < 8)) (cond (decide ((0 : Int) <= y)) (cond (decide (y < ((b).length : Int))) (cond (decide ((0 : Int) <= y)) (cond (decide (y < 8)) (cond (decide ((a1).length + 1 < 17592186044416)) (j4 c b (a1 ++ ([(Go.bits .and .i64 (wrap64 ((rdI b y) + (rdI i y))) 4294967295)] : List Int)) (wrap64 (y + 1)) i) (none)) (none)) (none)) (none)) (none)) (ret (false, a1))
mutual
def Xb.l0 : Nat -> Bool -> (List Int) -> Bool -> (List Int) -> Bool -> (List Int) -> Int -> Int -> Option (Bool × List Int)
 | 0, _, _, _, _, _, _, _, _ => none
 | k + 1, c, b, m, l, a3, a0, a2, z => Xb.l0b some (Xb.l0 k) (Xb.l1 k) (Xb.l2 k) (Xb.l3 k) (Xb.l4 k) k c b m l a3 a0 a2 z
def Xb.l1 : Nat -> Bool -> (List Int) -> Bool -> (List Int) -> Bool -> (List Int) -> Int -> (List Int) -> Option (Bool × List Int)
 | 0, _, _, _, _, _, _, _, _ => none
 | k + 1, c, b, m, l, g, f, p, d => Xb.l1b some (Xb.l0 k) (Xb.l1 k) (Xb.l2 k) (Xb.l3 k) (Xb.l4 k) k c b m l g f p d
def Xb.l2 : Nat -> Bool -> (List Int) -> Bool -> (List Int) -> Int -> (List Int) -> Option (Bool × List Int)
 | 0, _, _, _, _, _, _ => none
 | k + 1, c, b, g, f, o, d => Xb.l2b some (Xb.l0 k) (Xb.l1 k) (Xb.l2 k) (Xb.l3 k) (Xb.l4 k) k c b g f o d
def Xb.l3 : Nat -> Bool -> (List Int) -> Bool -> (List Int) -> Int -> (List Int) -> (List Int) -> Option (Bool × List Int)
 | 0, _, _, _, _, _, _, _ => none
 | k + 1, c, b, g, f, w, d, i => Xb.l3b some (Xb.l0 k) (Xb.l1 k) (Xb.l2 k) (Xb.l3 k) (Xb.l4 k) k c b g f w d i
def Xb.l4 : Nat -> Bool -> (List Int) -> (List Int) -> Int -> (List Int) -> Option (Bool × List Int)
 | 0, _, _, _, _, _ => none
 | k + 1, c, b, a1, y, i => Xb.l4b some (Xb.l0 k) (Xb.l1 k) (Xb.l2 k) (Xb.l3 k) (Xb.l4 k) k c b a1 y i
end
def Xb.f : Nat -> Bool -> (List Int) -> Bool -> (List Int) -> Option (Bool × List Int)
 | 0, _, _, _, _ => none
 | k + 1, s, q, v, u => Xb.b some (Xb.l0 k) (Xb.l1 k) (Xb.l2 k) (Xb.l3 k) (Xb.l4 k) k s q v u
def Xb.enc (r : Bool × List Int) : Res := ⟨[.vals false [((.nums 3 .i64 r.1 r.2), true)]], []⟩
def Xb.ans (k : Nat) : List Arg -> Ans
 | [.v (.nums 3 .i64 s q), .v (.nums 5 .u8 v u)] => ⟨Xb.f k s q v u, Xb.enc⟩
 | _ => Ans.no
def Xb.Cs (k : Nat) : CallSem := tab [(119, Yau.ans k), (157, Ybo.ans k), (158, Yao.ans k)]
def Xb.cuts : List (Nat × Keep) := [(58, ⟨[(0, some []), (1, some []), (33, some []), (34, some []), (35, some [])], []⟩), (250, ⟨[(0, some []), (1, some []), (7, some []), (8, none), (9, some []), (46, some [])], []⟩), (506, ⟨[(0, some []), (7, some []), (8, none), (9, some []), (11, some [])], []⟩), (2042, ⟨[(0, some []), (7, some []), (8, none), (9, some []), (132, some [])], []⟩), (8186, ⟨[(0, some []), (9, some []), (23, none), (218, some [])], []⟩)]
noncomputable def Xb.K0 : List Fr := framesAt [true, true, false, true, false] (bodyOf Tryz.f155 Xb.cuts) []
def Xb.N0 (c : Bool) (b : List Int) (m : Bool) (l : List Int) (a3 : Bool) (a0 : List Int) (a2 : Int) (z : Int) : St := stOf 235 235 2 [(0, .val ⟨(.nums 3 .i64 c b), [], false, none⟩), (1, .val ⟨(.nums 5 .u8 m l), [], false, none⟩), (33, .val ⟨(.nums 3 .i64 a3 a0), [], false, none⟩), (34, .val (V.s (.int .i64 a2))), (35, .val (V.s (.int .i64 z)))] []
noncomputable def Xb.K1 : List Fr := framesAt [true, true, true, true, false, true, false] (bodyOf Tryz.f155 Xb.cuts) []
def Xb.N1 (c : Bool) (b : List Int) (m : Bool) (l : List Int) (g : Bool) (f : List Int) (p : Int) (d : List Int) : St := stOf 235 235 2 [(0, .val ⟨(.nums 3 .i64 c b), [], false, none⟩), (1, .val ⟨(.nums 5 .u8 m l), [], false, none⟩), (7, .bp 7 0), (8, .val ⟨(.nums 3 .i64 g f), [.l 8 0], true, some (.l 8 0)⟩), (9, .bp 9 0), (46, .val (V.s (.int .i64 p)))] [(7, .arr .i64 64 d), (9, .arr .i64 8 ([0, 0, 0, 0, 0, 0, 0, 0] : List Int))]
noncomputable def Xb.K2 : List Fr := framesAt [true, true, true, true, true, false, true, false] (bodyOf Tryz.f155 Xb.cuts) []
def Xb.N2 (c : Bool) (b : List Int) (g : Bool) (f : List Int) (o : Int) (d : List Int) : St := stOf 235 235 2 [(0, .val ⟨(.nums 3 .i64 c b), [], false, none⟩), (7, .bp 7 0), (8, .val ⟨(.nums 3 .i64 g f), [.l 8 0], true, some (.l 8 0)⟩), (9, .bp 9 0), (11, .val (V.s (.int .i64 o)))] [(7, .arr .i64 64 d), (9, .arr .i64 8 ([0, 0, 0, 0, 0, 0, 0, 0] : List Int))]
noncomputable def Xb.K3 : List Fr := framesAt [true, true, true, true, true, true, true, false, true, false] (bodyOf Tryz.f155 Xb.cuts) []
def Xb.N3 (c : Bool) (b : List Int) (g : Bool) (f : List Int) (w : Int) (d : List Int) (i : List Int) : St := stOf 235 235 2 [(0, .val ⟨(.nums 3 .i64 c b), [], false, none⟩), (7, .bp 7 0), (8, .val ⟨(.nums 3 .i64 g f), [.l 8 0], true, some (.l 8 0)⟩), (9, .bp 9 0), (132, .val (V.s (.int .i64 w)))] [(7, .arr .i64 64 d), (9, .arr .i64 8 i)]
noncomputable def Xb.K4 : List Fr := framesAt [true, true, true, true, true, true, true, true, true, false, true, false] (bodyOf Tryz.f155 Xb.cuts) []
def Xb.N4 (c : Bool) (b : List Int) (a1 : List Int) (y : Int) (i : List Int) : St := stOf 235 235 2 [(0, .val ⟨(.nums 3 .i64 c b), [], false, none⟩), (9, .bp 9 0), (23, .val ⟨(.nums 3 .i64 false a1), [.l 23 0], true, some (.l 23 0)⟩), (218, .val (V.s (.int .i64 y)))] [(9, .arr .i64 8 i)]
theorem Xb.s (k : Nat) (s : Bool) (q : List Int) (v : Bool) (u : List Int) : answer Tryz.prog Xb.Cs 100000 Xb.cuts [] Tryz.f155 (k + 1) [.v (.nums 3 .i64 s q), .v (.nums 5 .u8 v u)] = Xb.b (fun r => some (Xb.enc r)) (fun c b m l a3 a0 a2 z => rounds Tryz.prog Xb.Cs (finish Tryz.prog [] Tryz.f155 [.v (.nums 3 .i64 s q), .v (.nums 5 .u8 v u)]) 100000 k Xb.K0 (Xb.N0 c b m l a3 a0 a2 z)) (fun c b m l g f p d => rounds Tryz.prog Xb.Cs (finish Tryz.prog [] Tryz.f155 [.v (.nums 3 .i64 s q), .v (.nums 5 .u8 v u)]) 100000 k Xb.K1 (Xb.N1 c b m l g f p d)) (fun c b g f o d => rounds Tryz.prog Xb.Cs (finish Tryz.prog [] Tryz.f155 [.v (.nums 3 .i64 s q), .v (.nums 5 .u8 v u)]) 100000 k Xb.K2 (Xb.N2 c b g f o d)) (fun c b g f w d i => rounds Tryz.prog Xb.Cs (finish Tryz.prog [] Tryz.f155 [.v (.nums 3 .i64 s q), .v (.nums 5 .u8 v u)]) 100000 k Xb.K3 (Xb.N3 c b g f w d i)) (fun c b a1 y i => rounds Tryz.prog Xb.Cs (finish Tryz.prog [] Tryz.f155 [.v (.nums 3 .i64 s q), .v (.nums 5 .u8 v u)]) 100000 k Xb.K4 (Xb.N4 c b a1 y i)) k s q v u := by kernel_rfl
theorem Xb.s0 (k : Nat) (G : List Fr -> St -> Option Res) (s : Bool) (q : List Int) (v : Bool) (u : List Int) (a4 : Bool) (a5 : List Int) (b0 : Bool) (b1 : List Int) (b6 : Bool) (b7 : List Int) (b8 : Int) (b9 : Int) : resume Tryz.prog (Xb.Cs k) G (finish Tryz.prog [] Tryz.f155 [.v (.nums 3 .i64 s q), .v (.nums 5 .u8 v u)]) 100000 Xb.K0 (Xb.N0 a4 a5 b0 b1 b6 b7 b8 b9) = Xb.l0b (fun r => some (Xb.enc r)) (fun c b m l a3 a0 a2 z => G Xb.K0 (Xb.N0 c b m l a3 a0 a2 z)) (fun c b m l g f p d => G Xb.K1 (Xb.N1 c b m l g f p d)) (fun c b g f o d => G Xb.K2 (Xb.N2 c b g f o d)) (fun c b g f w d i => G Xb.K3 (Xb.N3 c b g f w d i)) (fun c b a1 y i => G Xb.K4 (Xb.N4 c b a1 y i)) k a4 a5 b0 b1 b6 b7 b8 b9 := by kernel_rfl
theorem Xb.s1 (k : Nat) (G : List Fr -> St -> Option Res) (s : Bool) (q : List Int) (v : Bool) (u : List Int) (a4 : Bool) (a5 : List Int) (b0 : Bool) (b1 : List Int) (a7 : Bool) (a8 : List Int) (c0 : Int) (a9 : List Int) : resume Tryz.prog (Xb.Cs k) G (finish Tryz.prog [] Tryz.f155 [.v (.nums 3 .i64 s q), .v (.nums 5 .u8 v u)]) 100000 Xb.K1 (Xb.N1 a4 a5 b0 b1 a7 a8 c0 a9) = Xb.l1b (fun r => some (Xb.enc r)) (fun c b m l a3 a0 a2 z => G Xb.K0 (Xb.N0 c b m l a3 a0 a2 z)) (fun c b m l g f p d => G Xb.K1 (Xb.N1 c b m l g f p d)) (fun c b g f o d => G Xb.K2 (Xb.N2 c b g f o d)) (fun c b g f w d i => G Xb.K3 (Xb.N3 c b g f w d i)) (fun c b a1 y i => G Xb.K4 (Xb.N4 c b a1 y i)) k a4 a5 b0 b1 a7 a8 c0 a9 := by kernel_rfl
theorem Xb.s2 (k : Nat) (G : List Fr -> St -> Option Res) (s : Bool) (q : List Int) (v : Bool) (u : List Int) (a4 : Bool) (a5 : List Int) (a7 : Bool) (a8 : List Int) (c1 : Int) (a9 : List Int) : resume Tryz.prog (Xb.Cs k) G (finish Tryz.prog [] Tryz.f155 [.v (.nums 3 .i64 s q), .v (.nums 5 .u8 v u)]) 100000 Xb.K2 (Xb.N2 a4 a5 a7 a8 c1 a9) = Xb.l2b (fun r => some (Xb.enc r)) (fun c b m l a3 a0 a2 z => G Xb.K0 (Xb.N0 c b m l a3 a0 a2 z)) (fun c b m l g f p d => G Xb.K1 (Xb.N1 c b m l g f p d)) (fun c b g f o d => G Xb.K2 (Xb.N2 c b g f o d)) (fun c b g f w d i => G Xb.K3 (Xb.N3 c b g f w d i)) (fun c b a1 y i => G Xb.K4 (Xb.N4 c b a1 y i)) k a4 a5 a7 a8 c1 a9 := by kernel_rfl
theorem Xb.s3 (k : Nat) (G : List Fr -> St -> Option Res) (s : Bool) (q : List Int) (v : Bool) (u : List Int) (a4 : Bool) (a5 : List Int) (a7 : Bool) (a8 : List Int) (c2 : Int) (a9 : List Int) (b2 : List Int) : resume Tryz.prog (Xb.Cs k) G (finish Tryz.prog [] Tryz.f155 [.v (.nums 3 .i64 s q), .v (.nums 5 .u8 v u)]) 100000 Xb.K3 (Xb.N3 a4 a5 a7 a8 c2 a9 b2) = Xb.l3b (fun r => some (Xb.enc r)) (fun c b m l a3 a0 a2 z => G Xb.K0 (Xb.N0 c b m l a3 a0 a2 z)) (fun c b m l g f p d => G Xb.K1 (Xb.N1 c b m l g f p d)) (fun c b g f o d => G Xb.K2 (Xb.N2 c b g f o d)) (fun c b g f w d i => G Xb.K3 (Xb.N3 c b g f w d i)) (fun c b a1 y i => G Xb.K4 (Xb.N4 c b a1 y i)) k a4 a5 a7 a8 c2 a9 b2 := by kernel_rfl
theorem Xb.s4 (k : Nat) (G : List Fr -> St -> Option Res) (s : Bool) (q : List Int) (v : Bool) (u : List Int) (a4 : Bool) (a5 : List Int) (c3 : List Int) (c4 : Int) (b2 : List Int) : resume Tryz.prog (Xb.Cs k) G (finish Tryz.prog [] Tryz.f155 [.v (.nums 3 .i64 s q), .v (.nums 5 .u8 v u)]) 100000 Xb.K4 (Xb.N4 a4 a5 c3 c4 b2) = Xb.l4b (fun r => some (Xb.enc r)) (fun c b m l a3 a0 a2 z => G Xb.K0 (Xb.N0 c b m l a3 a0 a2 z)) (fun c b m l g f p d => G Xb.K1 (Xb.N1 c b m l g f p d)) (fun c b g f o d => G Xb.K2 (Xb.N2 c b g f o d)) (fun c b g f w d i => G Xb.K3 (Xb.N3 c b g f w d i)) (fun c b a1 y i => G Xb.K4 (Xb.N4 c b a1 y i)) k a4 a5 c3 c4 b2 := by kernel_rfl
theorem Xb.b_nat {R R' : Type} (e : R -> R') (ret : Bool × List Int -> Option R) (j0 : Bool -> (List Int) -> Bool -> (List Int) -> Bool -> (List Int) -> Int -> Int -> Option R) (j1 : Bool -> (List Int) -> Bool -> (List Int) -> Bool -> (List Int) -> Int -> (List Int) -> Option R) (j2 : Bool -> (List Int) -> Bool -> (List Int) -> Int -> (List Int) -> Option R) (j3 : Bool -> (List Int) -> Bool -> (List Int) -> Int -> (List Int) -> (List Int) -> Option R) (j4 : Bool -> (List Int) -> (List Int) -> Int -> (List Int) -> Option R) (k : Nat) (s : Bool) (q : List Int) (v : Bool) (u : List Int) : Xb.b (fun r => (ret r).map e) (fun c b m l a3 a0 a2 z => (j0 c b m l a3 a0 a2 z).map e) (fun c b m l g f p d => (j1 c b m l g f p d).map e) (fun c b g f o d => (j2 c b g f o d).map e) (fun c b g f w d i => (j3 c b g f w d i).map e) (fun c b a1 y i => (j4 c b a1 y i).map e) k s q v u = (Xb.b ret j0 j1 j2 j3 j4 k s q v u).map e := by
 unfold Xb.b
 repeat' first | with_reducible refine qH ?_ ?_ | with_reducible refine qI fun _ => ?_ | rfl
theorem Xb.l0b_nat {R R' : Type} (e : R -> R') (ret : Bool × List Int -> Option R) (j0 : Bool -> (List Int) -> Bool -> (List Int) -> Bool -> (List Int) -> Int -> Int -> Option R) (j1 : Bool -> (List Int) -> Bool -> (List Int) -> Bool -> (List Int) -> Int -> (List Int) -> Option R) (j2 : Bool -> (List Int) -> Bool -> (List Int) -> Int -> (List Int) -> Option R) (j3 : Bool -> (List Int) -> Bool -> (List Int) -> Int -> (List Int) -> (List Int) -> Option R) (j4 : Bool -> (List Int) -> (List Int) -> Int -> (List Int) -> Option R) (k : Nat) (c : Bool) (b : List Int) (m : Bool) (l : List Int) (a3 : Bool) (a0 : List Int) (a2 : Int) (z : Int) : Xb.l0b (fun r => (ret r).map e) (fun c b m l a3 a0 a2 z => (j0 c b m l a3 a0 a2 z).map e) (fun c b m l g f p d => (j1 c b m l g f p d).map e) (fun c b g f o d => (j2 c b g f o d).map e) (fun c b g f w d i => (j3 c b g f w d i).map e) (fun c b a1 y i => (j4 c b a1 y i).map e) k c b m l a3 a0 a2 z = (Xb.l0b ret j0 j1 j2 j3 j4 k c b m l a3 a0 a2 z).map e := by
 unfold Xb.l0b
 repeat' first | with_reducible refine qH ?_ ?_ | with_reducible refine qI fun _ => ?_ | rfl
theorem Xb.l1b_nat {R R' : Type} (e : R -> R') (ret : Bool × List Int -> Option R) (j0 : Bool -> (List Int) -> Bool -> (List Int) -> Bool -> (List Int) -> Int -> Int -> Option R) (j1 : Bool -> (List Int) -> Bool -> (List Int) -> Bool -> (List Int) -> Int -> (List Int) -> Option R) (j2 : Bool -> (List Int) -> Bool -> (List Int) -> Int -> (List Int) -> Option R) (j3 : Bool -> (List Int) -> Bool -> (List Int) -> Int -> (List Int) -> (List Int) -> Option R) (j4 : Bool -> (List Int) -> (List Int) -> Int -> (List Int) -> Option R) (k : Nat) (c : Bool) (b : List Int) (m : Bool) (l : List Int) (g : Bool) (f : List Int) (p : Int) (d : List Int) : Xb.l1b (fun r => (ret r).map e) (fun c b m l a3 a0 a2 z => (j0 c b m l a3 a0 a2 z).map e) (fun c b m l g f p d => (j1 c b m l g f p d).map e) (fun c b g f o d => (j2 c b g f o d).map e) (fun c b g f w d i => (j3 c b g f w d i).map e) (fun c b a1 y i => (j4 c b a1 y i).map e) k c b m l g f p d = (Xb.l1b ret j0 j1 j2 j3 j4 k c b m l g f p d).map e := by
 unfold Xb.l1b
 repeat' first | with_reducible refine qH ?_ ?_ | with_reducible refine qI fun _ => ?_ | rfl
theorem Xb.l2b_nat {R R' : Type} (e : R -> R') (ret : Bool × List Int -> Option R) (j0 : Bool -> (List Int) -> Bool -> (List Int) -> Bool -> (List Int) -> Int -> Int -> Option R) (j1 : Bool -> (List Int) -> Bool -> (List Int) -> Bool -> (List Int) -> Int -> (List Int) -> Option R) (j2 : Bool -> (List Int) -> Bool -> (List Int) -> Int -> (List Int) -> Option R) (j3 : Bool -> (List Int) -> Bool -> (List Int) -> Int -> (List Int) -> (List Int) -> Option R) (j4 : Bool -> (List Int) -> (List Int) -> Int -> (List Int) -> Option R) (k : Nat) (c : Bool) (b : List Int) (g : Bool) (f : List Int) (o : Int) (d : List Int) : Xb.l2b (fun r => (ret r).map e) (fun c b m l a3 a0 a2 z => (j0 c b m l a3 a0 a2 z).map e) (fun c b m l g f p d => (j1 c b m l g f p d).map e) (fun c b g f o d => (j2 c b g f o d).map e) (fun c b g f w d i => (j3 c b g f w d i).map e) (fun c b a1 y i => (j4 c b a1 y i).map e) k c b g f o d = (Xb.l2b ret j0 j1 j2 j3 j4 k c b g f o d).map e := by
 unfold Xb.l2b
 repeat' first | with_reducible refine qH ?_ ?_ | with_reducible refine qI fun _ => ?_ | rfl
theorem Xb.l3b_nat {R R' : Type} (e : R -> R') (ret : Bool × List Int -> Option R) (j0 : Bool -> (List Int) -> Bool -> (List Int) -> Bool -> (List Int) -> Int -> Int -> Option R) (j1 : Bool -> (List Int) -> Bool -> (List Int) -> Bool -> (List Int) -> Int -> (List Int) -> Option R) (j2 : Bool -> (List Int) -> Bool -> (List Int) -> Int -> (List Int) -> Option R) (j3 : Bool -> (List Int) -> Bool -> (List Int) -> Int -> (List Int) -> (List Int) -> Option R) (j4 : Bool -> (List Int) -> (List Int) -> Int -> (List Int) -> Option R) (k : Nat) (c : Bool) (b : List Int) (g : Bool) (f : List Int) (w : Int) (d : List Int) (i : List Int) : Xb.l3b (fun r => (ret r).map e) (fun c b m l a3 a0 a2 z => (j0 c b m l a3 a0 a2 z).map e) (fun c b m l g f p d => (j1 c b m l g f p d).map e) (fun c b g f o d => (j2 c b g f o d).map e) (fun c b g f w d i => (j3 c b g f w d i).map e) (fun c b a1 y i => (j4 c b a1 y i).map e) k c b g f w d i = (Xb.l3b ret j0 j1 j2 j3 j4 k c b g f w d i).map e := by
 unfold Xb.l3b
 repeat' first | with_reducible refine qH ?_ ?_ | with_reducible refine qI fun _ => ?_ | rfl
theorem Xb.l4b_nat {R R' : Type} (e : R -> R') (ret : Bool × List Int -> Option R) (j0 : Bool -> (List Int) -> Bool -> (List Int) -> Bool -> (List Int) -> Int -> Int -> Option R) (j1 : Bool -> (List Int) -> Bool -> (List Int) -> Bool -> (List Int) -> Int -> (List Int) -> Option R) (j2 : Bool -> (List Int) -> Bool -> (List Int) -> Int -> (List Int) -> Option R) (j3 : Bool -> (List Int) -> Bool -> (List Int) -> Int -> (List Int) -> (List Int) -> Option R) (j4 : Bool -> (List Int) -> (List Int) -> Int -> (List Int) -> Option R) (k : Nat) (c : Bool) (b : List Int) (a1 : List Int) (y : Int) (i : List Int) : Xb.l4b (fun r => (ret r).map e) (fun c b m l a3 a0 a2 z => (j0 c b m l a3 a0 a2 z).map e) (fun c b m l g f p d => (j1 c b m l g f p d).map e) (fun c b g f o d => (j2 c b g f o d).map e) (fun c b g f w d i => (j3 c b g f w d i).map e) (fun c b a1 y i => (j4 c b a1 y i).map e) k c b a1 y i = (Xb.l4b ret j0 j1 j2 j3 j4 k c b a1 y i).map e := by
 unfold Xb.l4b
 repeat' first | with_reducible refine qH ?_ ?_ | with_reducible refine qI fun _ => ?_ | rfl
theorem Xb.rounds_eq (s : Bool) (q : List Int) (v : Bool) (u : List Int) : ∀ k, (∀ (c : Bool) (b : List Int) (m : Bool) (l : List Int) (a3 : Bool) (a0 : List Int) (a2 : Int) (z : Int), rounds Tryz.prog Xb.Cs (finish Tryz.prog [] Tryz.f155 [.v (.nums 3 .i64 s q), .v (.nums 5 .u8 v u)]) 100000 k Xb.K0 (Xb.N0 c b m l a3 a0 a2 z) = (Xb.l0 k c b m l a3 a0 a2 z).map Xb.enc) /\ (∀ (c : Bool) (b : List Int) (m : Bool) (l : List Int) (g : Bool) (f : List Int) (p : Int) (d : List Int), rounds Tryz.prog Xb.Cs (finish Tryz.prog [] Tryz.f155 [.v (.nums 3 .i64 s q), .v (.nums 5 .u8 v u)]) 100000 k Xb.K1 (Xb.N1 c b m l g f p d) = (Xb.l1 k c b m l g f p d).map Xb.enc) /\ (∀ (c : Bool) (b : List Int) (g : Bool) (f : List Int) (o : Int) (d : List Int), rounds Tryz.prog Xb.Cs (finish Tryz.prog [] Tryz.f155 [.v (.nums 3 .i64 s q), .v (.nums 5 .u8 v u)]) 100000 k Xb.K2 (Xb.N2 c b g f o d) = (Xb.l2 k c b g f o d).map Xb.enc) /\ (∀ (c : Bool) (b : List Int) (g : Bool) (f : List Int) (w : Int) (d : List Int) (i : List Int), rounds Tryz.prog Xb.Cs (finish Tryz.prog [] Tryz.f155 [.v (.nums 3 .i64 s q), .v (.nums 5 .u8 v u)]) 100000 k Xb.K3 (Xb.N3 c b g f w d i) = (Xb.l3 k c b g f w d i).map Xb.enc) /\ (∀ (c : Bool) (b : List Int) (a1 : List Int) (y : Int) (i : List Int), rounds Tryz.prog Xb.Cs (finish Tryz.prog [] Tryz.f155 [.v (.nums 3 .i64 s q), .v (.nums 5 .u8 v u)]) 100000 k Xb.K4 (Xb.N4 c b a1 y i) = (Xb.l4 k c b a1 y i).map Xb.enc)
 | 0 => ⟨fun _ _ _ _ _ _ _ _ => rfl, fun _ _ _ _ _ _ _ _ => rfl, fun _ _ _ _ _ _ => rfl, fun _ _ _ _ _ _ _ => rfl, fun _ _ _ _ _ => rfl⟩
 | k + 1 => by
  have ih := Xb.rounds_eq s q v u k
  refine ⟨fun _ _ _ _ _ _ _ _ => ?_, fun _ _ _ _ _ _ _ _ => ?_, fun _ _ _ _ _ _ => ?_, fun _ _ _ _ _ _ _ => ?_, fun _ _ _ _ _ => ?_⟩
  ·refine (Xb.s0 k _ s q v u _ _ _ _ _ _ _ _).trans (Eq.trans ?_ (Xb.l0b_nat Xb.enc some (Xb.l0 k) (Xb.l1 k) (Xb.l2 k) (Xb.l3 k) (Xb.l4 k) k _ _ _ _ _ _ _ _))
   simp only [ih.1, ih.2.1, ih.2.2.1, ih.2.2.2.1, ih.2.2.2.2, Option.map_some]
  ·refine (Xb.s1 k _ s q v u _ _ _ _ _ _ _ _).trans (Eq.trans ?_ (Xb.l1b_nat Xb.enc some (Xb.l0 k) (Xb.l1 k) (Xb.l2 k) (Xb.l3 k) (Xb.l4 k) k _ _ _ _ _ _ _ _))
   simp only [ih.1, ih.2.1, ih.2.2.1, ih.2.2.2.1, ih.2.2.2.2, Option.map_some]
  ·refine (Xb.s2 k _ s q v u _ _ _ _ _ _).trans (Eq.trans ?_ (Xb.l2b_nat Xb.enc some (Xb.l0 k) (Xb.l1 k) (Xb.l2 k) (Xb.l3 k) (Xb.l4 k) k _ _ _ _ _ _))
   simp only [ih.1, ih.2.1, ih.2.2.1, ih.2.2.2.1, ih.2.2.2.2, Option.map_some]
  ·refine (Xb.s3 k _ s q v u _ _ _ _ _ _ _).trans (Eq.trans ?_ (Xb.l3b_nat Xb.enc some (Xb.l0 k) (Xb.l1 k) (Xb.l2 k) (Xb.l3 k) (Xb.l4 k) k _ _ _ _ _ _ _))
   simp only [ih.1, ih.2.1, ih.2.2.1, ih.2.2.2.1, ih.2.2.2.2, Option.map_some]
  ·refine (Xb.s4 k _ s q v u _ _ _ _ _).trans (Eq.trans ?_ (Xb.l4b_nat Xb.enc some (Xb.l0 k) (Xb.l1 k) (Xb.l2 k) (Xb.l3 k) (Xb.l4 k) k _ _ _ _ _))
   simp only [ih.1, ih.2.1, ih.2.2.1, ih.2.2.2.1, ih.2.2.2.2, Option.map_some]
theorem Xb.eq (k : Nat) (s : Bool) (q : List Int) (v : Bool) (u : List Int) : answer Tryz.prog Xb.Cs 100000 Xb.cuts [] Tryz.f155 (k + 1) [.v (.nums 3 .i64 s q), .v (.nums 5 .u8 v u)] = (Xb.f (k + 1) s q v u).map Xb.enc := by
 have ih := Xb.rounds_eq s q v u k
 refine (Xb.s k s q v u).trans (Eq.trans ?_ (Xb.b_nat Xb.enc some (Xb.l0 k) (Xb.l1 k) (Xb.l2 k) (Xb.l3 k) (Xb.l4 k) k s q v u))
 simp only [ih.1, ih.2.1, ih.2.2.1, ih.2.2.2.1, ih.2.2.2.2, Option.map_some]
theorem Xb.sound (k : Nat) : SoundF Tryz.prog 155 (fun a => (Xb.ans k a).val) := by
 refine qw (fun args res h => ?_) (fun t n => rfl)
 unfold Xb.ans at h
 dsimp only at h
 split at h
 ·cases k with
  | zero => cases h
  | succ k =>
   unfold Ans.val at h
   rw [<- Xb.eq] at h
   exact qB mixed Tryz.func155 _ _ _ (k + 1) (fun j _ => qu (qp (Yau.F.s j) (qp (Ybo.F.s j) (qp (Yao.F.s j) (qaL))))) _ _ h
 ·exact (Ans.no_val h).elim
def Xb.F : Fn := ⟨155, Xb.ans, Xb.sound⟩
mutual
def Xn.l0 : Nat -> Bool -> (List Int) -> Bool -> (List Int) -> Int -> Option (Bool × List Int)
 | 0, _, _, _, _, _ => none
 | k + 1, i, e, j, d, a => cond (decide (a < ((d).length : Int))) (cond (decide ((0 : Int) <= (wrap64 (a + 64)))) (cond (decide ((wrap64 (a + 64)) <= ((d).length : Int))) (cond (decide ((0 : Int) <= a)) (cond (decide (a <= (wrap64 (a + 64)))) ((Xb.f k i e j (((d).take ((wrap64 (a + 64))).toNat).drop (a).toNat)).bind fun n => Xn.l0 k n.1 n.2 j d (wrap64 (a + 64))) (none)) (none)) (none)) (none)) (Xn.l1 k ([] : List Int) i e ((e).length : Int) 0)
def Xn.l1 : Nat -> (List Int) -> Bool -> (List Int) -> Int -> Int -> Option (Bool × List Int)
 | 0, _, _, _, _, _ => none
 | k + 1, f, m, c, l, b => cond (decide (b < l)) (cond (decide ((0 : Int) <= b)) (cond (decide (b < ((c).length : Int))) (cond (decide ((f).length + 4 < 140737488355328)) (Xn.l1 k (f ++ ([(((shrI .i64 (rdI c b) 24)) % 256), (((shrI .i64 (rdI c b) 16)) % 256), (((shrI .i64 (rdI c b) 8)) % 256), (((rdI c b)) % 256)] : List Int)) m c l (wrap64 (b + 1))) (none)) (none)) (none)) (some (false, f))
end
def Xn.f : Nat -> Bool -> (List Int) -> Option (Bool × List Int)
 | 0, _, _ => none
 | k + 1, g, h => (YaW.f k).bind fun n => (Xv.f k g h).bind fun o => Xn.l0 k n.1 n.2 o.1 o.2 0
def Xn.enc (r : Bool × List Int) : Res := ⟨[.vals false [((.nums 5 .u8 r.1 r.2), true)]], []⟩
def Xn.ans (k : Nat) : List Arg -> Ans
 | [.v (.nums 5 .u8 g h)] => ⟨Xn.f k g h, Xn.enc⟩
 | _ => Ans.no
def Xn.cuts : List (Nat × Keep) := [(58, ⟨[(3, none), (4, none), (5, some [])], []⟩), (250, ⟨[(6, none), (26, none), (27, some []), (28, some [])], []⟩)]
noncomputable def Xn.K0 : List Fr := framesAt [true, true, false, true, false] (bodyOf Tryz.f145 Xn.cuts) []
def Xn.N0 (i : Bool) (e : List Int) (j : Bool) (d : List Int) (a : Int) : St := stOf 48 48 1 [(3, .val ⟨(.nums 3 .i64 i e), [.l 3 0], true, some (.l 3 0)⟩), (4, .val ⟨(.nums 5 .u8 j d), [.l 4 0], true, some (.l 4 0)⟩), (5, vi a)] []
noncomputable def Xn.K1 : List Fr := framesAt [true, true, true, true, false, true, false] (bodyOf Tryz.f145 Xn.cuts) []
def Xn.N1 (f : List Int) (m : Bool) (c : List Int) (l : Int) (b : Int) : St := stOf 48 48 1 [(6, .val ⟨(.nums 5 .u8 false f), [.l 6 0], true, some (.l 6 0)⟩), (26, .val ⟨(.nums 3 .i64 m c), [.l 26 0], true, some (.l 26 0)⟩), (27, vi l), (28, vi b)] []
theorem Xn.r (g) (h) (k) : (∀ i e j d a, rounds Tryz.prog (tb [YaW.F, Xv.F, Xb.F]) (finish Tryz.prog [] Tryz.f145 [.v (.nums 5 .u8 g h)]) 100000 k Xn.K0 (Xn.N0 i e j d a) = (Xn.l0 k i e j d a).map Xn.enc) /\ (∀ f m c l b, rounds Tryz.prog (tb [YaW.F, Xv.F, Xb.F]) (finish Tryz.prog [] Tryz.f145 [.v (.nums 5 .u8 g h)]) 100000 k Xn.K1 (Xn.N1 f m c l b) = (Xn.l1 k f m c l b).map Xn.enc) := by
 induction k with
 | zero => and_intros <;> intros <;> rfl
 | succ k ih =>
  have ⟨i0, i1⟩ := ih
  and_intros <;> intros <;> simp only [Xn.l0.eq_2, Xn.l1.eq_2, mc, mb, ms, mn, <- i0, <- i1, -eq_self] <;> kernel_rfl
def Xn.F : Fn := ⟨145, Xn.ans, sd Xn.ans Tryz.func145 [YaW.F, Xv.F, Xb.F] Xn.cuts [] (fun k x => by unfold Xn.ans; split; (right; rename_i g h; have ⟨i0, i1⟩ := Xn.r g h k; change _ = Option.map Xn.enc _; simp only [Xn.f.eq_2, mc, mb, ms, mn, <- i0, <- i1, -eq_self]; kernel_rfl); exact .inl rfl) (fun x => by unfold Xn.ans; split <;> rfl)⟩
def Ybp.f : Nat -> Bool -> (List Int) -> Option (Bool × List Int)
 | 0, _, _ => none
 | k + 1, b, a => cond (decide (1 + (a).length < 140737488355328)) ((Xn.f k ((a).isEmpty && false) (([0] : List Int) ++ a)).bind fun c => some (c.1, c.2)) (none)
def Ybp.enc (r : Bool × List Int) : Res := ⟨[.vals false [((.nums 5 .u8 r.1 r.2), true)]], []⟩
def Ybp.ans (k : Nat) : List Arg -> Ans
 | [.v (.nums 5 .u8 b a)] => ⟨Ybp.f k b a, Ybp.enc⟩
 | _ => Ans.no
def Ybp.F : Fn := ⟨146, Ybp.ans, sd Ybp.ans Tryz.func146 [Xn.F] [] [] (fun k x => by unfold Ybp.ans; split; (right; change _ = Option.map Ybp.enc _; simp only [Ybp.f.eq_2, mc, mb, ms, mn, -eq_self]; kernel_rfl); exact .inl rfl) (fun x => by unfold Ybp.ans; split <;> rfl)⟩
def XL.l0 : Nat -> Int -> Int -> Option Int
 | 0, _, _ => none
 | k + 1, c, a => cond (decide (a < (wrap64 (c - a)))) (XL.l0 k c (wrap64 (a * 2))) (some a)
def XL.f : Nat -> Int -> Option Int
 | 0, _ => none
 | k + 1, b => cond (decide (b < 2)) (some 0) (XL.l0 k b 1)
def XL.enc (r : Int) : Res := ⟨[.vals false [((.int .i64 r), true)]], []⟩
def XL.ans (k : Nat) : List Arg -> Ans
 | [.v (.int .i64 b)] => ⟨XL.f k b, XL.enc⟩
 | _ => Ans.no
def XL.cuts : List (Nat × Keep) := [(60, ⟨[(0, some []), (3, some [])], []⟩)]
noncomputable def XL.K0 : List Fr := framesAt [true, true, true, false, false] (bodyOf Tryz.f147 XL.cuts) []
def XL.N0 (c : Int) (a : Int) : St := stOf 14 14 1 [(0, vi c), (3, vi a)] []
theorem XL.r (b) (k) : (∀ c a, rounds Tryz.prog (tb []) (finish Tryz.prog [] Tryz.f147 [.v (.int .i64 b)]) 100000 k XL.K0 (XL.N0 c a) = (XL.l0 k c a).map XL.enc) := by
 induction k with
 | zero => intros <;> rfl
 | succ k ih =>
  have i0 := ih
  intros <;> simp only [XL.l0.eq_2, mc, mb, ms, mn, <- i0, -eq_self] <;> kernel_rfl
def XL.F : Fn := ⟨147, XL.ans, sd XL.ans Tryz.func147 [] XL.cuts [] (fun k x => by unfold XL.ans; split; (right; rename_i b; have i0 := XL.r b k; change _ = Option.map XL.enc _; simp only [XL.f.eq_2, mc, mb, ms, mn, <- i0, -eq_self]; kernel_rfl); exact .inl rfl) (fun x => by unfold XL.ans; split <;> rfl)⟩
def Ybq.f : Nat -> Bool -> (List Int) -> Bool -> (List Int) -> Option (Bool × List Int)
 | 0, _, _, _, _ => none
 | k + 1, c, a, d, b => cond (decide (1 + (a).length < 140737488355328)) (cond (decide (((([1] : List Int) ++ a)).length + (b).length < 140737488355328)) ((Xn.f k ((b).isEmpty && ((a).isEmpty && false)) ((([1] : List Int) ++ a) ++ b)).bind fun e => some (e.1, e.2)) (none)) (none)
def Ybq.enc (r : Bool × List Int) : Res := ⟨[.vals false [((.nums 5 .u8 r.1 r.2), true)]], []⟩
def Ybq.ans (k : Nat) : List Arg -> Ans
 | [.v (.nums 5 .u8 c a), .v (.nums 5 .u8 d b)] => ⟨Ybq.f k c a d b, Ybq.enc⟩
 | _ => Ans.no
def Ybq.F : Fn := ⟨148, Ybq.ans, sd Ybq.ans Tryz.func148 [Xn.F] [] [] (fun k x => by unfold Ybq.ans; split; (right; change _ = Option.map Ybq.enc _; simp only [Ybq.f.eq_2, mc, mb, ms, mn, -eq_self]; kernel_rfl); exact .inl rfl) (fun x => by unfold Ybq.ans; split <;> rfl)⟩
def Yak.f : Nat -> Bool -> (List T) -> Option (Bool × List Int)
 | 0, _, _ => none
 | k + 1, d, b => cond (decide (((b).length : Int) = 0)) ((Xn.f k true ([] : List Int)).bind fun c => some (c.1, c.2)) (cond (decide (((b).length : Int) = 1)) (cond (decide ((0 : Int) < ((b).length : Int))) ((Ybp.f k (((((b).getD 0 .bad).cells.getD 0 .bad)).isNil) (((((b).getD 0 .bad).cells.getD 0 .bad)).toNums)).bind fun c => some (c.1, c.2)) (none)) ((XL.f k ((b).length : Int)).bind fun c => cond (decide ((0 : Int) <= c)) (cond (decide (c <= ((b).length : Int))) (cond (decide ((0 : Int) <= c)) ((Yak.f k d (((b).take (c).toNat).drop 0)).bind fun e => cond (decide ((0 : Int) <= ((b).length : Int))) (cond (decide (((b).length : Int) <= ((b).length : Int))) (cond (decide ((0 : Int) <= c)) (cond (decide (c <= ((b).length : Int))) ((Yak.f k d (((b).take (b).length).drop (c).toNat)).bind fun f => (Ybq.f k e.1 e.2 f.1 f.2).bind fun g => some (g.1, g.2)) (none)) (none)) (none)) (none)) (none)) (none)) (none)))
def Yak.enc (r : Bool × List Int) : Res := ⟨[.vals false [((.nums 5 .u8 r.1 r.2), true)]], []⟩
def Yak.ans (k : Nat) : List Arg -> Ans
 | [.v (.sl 24 d b)] => ⟨Yak.f k d b, Yak.enc⟩
 | _ => Ans.no
def Yak.Cs (k : Nat) : CallSem := tab [(145, Xn.ans k), (146, Ybp.ans k), (147, XL.ans k), (148, Ybq.ans k), (130, Yak.ans k)]
theorem Yak.eq (k d b) : answer Tryz.prog (Yak.Cs) 100000 [] [] Tryz.f130 (k + 1) [.v (.sl 24 d b)] = (Yak.f (k + 1) d b).map Yak.enc := by
 rw [Yak.f.eq_2]; simp only [mc, mb, ms, mn, -eq_self]; show _ = _; kernel_rfl
theorem Yak.sound (k : Nat) : SoundF Tryz.prog 130 (fun a => (Yak.ans k a).val) := by
 induction k using Nat.strongRecOn with
 | _ k sih =>
 match k, sih with
 | 0, _ =>
  refine qw (fun args res h => ?_) (fun t n => rfl)
  unfold Yak.ans at h
  dsimp only at h
  split at h
  ·cases h
  ·exact (Ans.no_val h).elim
 | k + 1, sih =>
  refine qw (fun args res h => ?_) (fun t n => rfl)
  unfold Yak.ans at h
  dsimp only at h
  split at h
  ·unfold Ans.val at h
   rw [<- Yak.eq] at h
   exact qB mixed Tryz.func130 _ _ _ (k + 1) (fun j hj => qu (qp (Xn.F.s j) (qp (Ybp.F.s j) (qp (XL.F.s j) (qp (Ybq.F.s j) (qp (sih j hj) (qaL))))))) _ _ h
  ·exact (Ans.no_val h).elim
def Yak.F : Fn := ⟨130, Yak.ans, Yak.sound⟩
mutual
def Xz.l0 : Nat -> Int -> Int -> Bool -> (List Int) -> Int -> Int -> Int -> Int -> Int -> Int -> Int -> Int -> Int -> Int -> Bool -> (List Int) -> Bool -> (List Int) -> Int -> Int -> Bool -> (List Int) -> Bool -> (List Int) -> Bool -> (List T) -> Bool -> (List T) -> Option (Int × Int × Int × Bool × (List Int) × Bool × (List Int) × Int × Int × Bool × (List Int) × Bool × (List Int) × Bool × (List T) × Bool × (List T) × Bool × (List Int) × Int × Int)
 | 0, _, _, _, _, _, _, _, _, _, _, _, _, _, _, _, _, _, _, _, _, _, _, _, _, _, _, _, _ => none
 | k + 1, a8, a9, f, g, h, b, b2, b0, b3, b4, b5, i, j, l, m, n, d, e, o, p, q, s, t, u, v, w, y, c => cond (decide (a9 < a8)) (cond (decide (b = 0)) ((Yax.f k f g h b b0).bind fun a => cond (decide ((c).length + 1 < 5864062014805)) (Xz.l0 k a8 (wrap64 (a9 + 1)) a.2.2.1 a.2.2.2.1 a.2.2.2.2.1 a.2.2.2.2.2 b2 b0 b3 b4 b5 i j l m n d e o p q s t u v w false (c ++ ([(.nums 5 .u8 a.1 a.2.1)] : List T))) (none)) (Xz.l1 k f g h b i j l m n d e o p q s t u v w y c)) (Xz.l1 k f g h b i j l m n d e o p q s t u v w y c)
def Xz.l1 : Nat -> Bool -> (List Int) -> Int -> Int -> Int -> Int -> Int -> Bool -> (List Int) -> Bool -> (List Int) -> Int -> Int -> Bool -> (List Int) -> Bool -> (List Int) -> Bool -> (List T) -> Bool -> (List T) -> Option (Int × Int × Int × Bool × (List Int) × Bool × (List Int) × Int × Int × Bool × (List Int) × Bool × (List Int) × Bool × (List T) × Bool × (List T) × Bool × (List Int) × Int × Int)
 | 0, _, _, _, _, _, _, _, _, _, _, _, _, _, _, _, _, _, _, _, _, _ => none
 | k + 1, f, g, h, b, i, j, l, m, n, d, e, o, p, q, s, t, u, v, w, y, c => cond (!(decide (b = 0))) ((XD.f k f g h b true 7).bind fun a => some (i, j, l, m, n, d, e, o, p, q, s, t, u, v, w, y, c, a.1, a.2.1, a.2.2.1, a.2.2.2)) ((Yak.f k y c).bind fun a => (YaF.f k d e a.1 a.2).bind fun b1 => (XD.f k f g h b b1 7).bind fun b6 => some (i, j, l, m, n, d, e, o, p, q, s, t, u, v, w, y, c, b6.1, b6.2.1, b6.2.2.1, b6.2.2.2))
end
def Xz.f : Nat -> Int -> Int -> Int -> Int -> Int -> Bool -> (List Int) -> Int -> Int -> Option (Int × Int × Int × Bool × (List Int) × Bool × (List Int) × Int × Int × Bool × (List Int) × Bool × (List Int) × Bool × (List T) × Bool × (List T) × Bool × (List Int) × Int × Int)
 | 0, _, _, _, _, _, _, _, _, _ => none
 | k + 1, a0, a1, z, a2, a3, a4, a5, a6, a7 => (Yar.f k a0 a1 z a2 a3 a4 a5 a6 a7).bind fun a => (Yai.f k a.2.2.2.2.2.2.2.2.2.2.2.2.2.2.2.1 a.2.2.2.2.2.2.2.2.2.2.2.2.2.2.2.2.1 a.2.2.2.2.2.2.2.2.2.2.2.2.2.2.2.2.2.1 a.2.2.2.2.2.2.2.2.2.2.2.2.2.2.2.2.2.2 (wrap64 (z + 1)) 3).bind fun b1 => Xz.l0 k b1.1 0 b1.2.1 b1.2.2.1 b1.2.2.2.1 b1.2.2.2.2 a0 a1 z a2 a3 a.1 a.2.1 a.2.2.1 a.2.2.2.1 a.2.2.2.2.1 a.2.2.2.2.2.1 a.2.2.2.2.2.2.1 a.2.2.2.2.2.2.2.1 a.2.2.2.2.2.2.2.2.1 a.2.2.2.2.2.2.2.2.2.1 a.2.2.2.2.2.2.2.2.2.2.1 a.2.2.2.2.2.2.2.2.2.2.2.1 a.2.2.2.2.2.2.2.2.2.2.2.2.1 a.2.2.2.2.2.2.2.2.2.2.2.2.2.1 a.2.2.2.2.2.2.2.2.2.2.2.2.2.2.1 true ([] : List T)
def Xz.enc (r : Int × Int × Int × Bool × (List Int) × Bool × (List Int) × Int × Int × Bool × (List Int) × Bool × (List Int) × Bool × (List T) × Bool × (List T) × Bool × (List Int) × Int × Int) : Res := ⟨[.vals true [((.int .i64 r.1), true), ((.int .i64 r.2.1), true), ((.int .i64 r.2.2.1), true), ((.nums 5 .u8 r.2.2.2.1 r.2.2.2.2.1), true), ((.nums 5 .u8 r.2.2.2.2.2.1 r.2.2.2.2.2.2.1), true), ((.int .i64 r.2.2.2.2.2.2.2.1), true), ((.int .i64 (e8 r).1), true), ((.nums 5 .u8 (e8 r).2.1 (e8 r).2.2.1), true), ((.nums 5 .u8 (e8 r).2.2.2.1 (e8 r).2.2.2.2.1), true), ((.sl 24 (e8 r).2.2.2.2.2.1 (e8 r).2.2.2.2.2.2.1), true), ((.sl 24 (e8 r).2.2.2.2.2.2.2.1 (e8 (e8 r)).1), true)]], [[((.nums 5 .u8 (e8 (e8 r)).2.1 (e8 (e8 r)).2.2.1), false), ((.int .i64 (e8 (e8 r)).2.2.2.1), true), ((.int .i64 (e8 (e8 r)).2.2.2.2), true)]]⟩
def Xz.ans (k : Nat) : List Arg -> Ans
 | [.v (.agg [(.int .i64 a0), (.int .i64 a1), (.int .i64 z), (.int .i64 a2), (.int .i64 a3)]), .box [((.nums 5 .u8 a4 a5), false), ((.int .i64 a6), false), ((.int .i64 a7), false)]] => ⟨Xz.f k a0 a1 z a2 a3 a4 a5 a6 a7, Xz.enc⟩
 | _ => Ans.no
def Xz.cuts : List (Nat × Keep) := [(122, ⟨[(1, some []), (2, some []), (4, some []), (5, some []), (6, some []), (7, some [])], [(1, [some [], some [], some []]), (2, [some [], some [], some [], some [], some []]), (4, [some [], some [], some [], none, none, some [], some [], none, none, none, none]), (5, [some [], some [], some [], none, none, some [], some [], none, none, none, none])]⟩), (15, ⟨[(1, some []), (4, some []), (5, some [])], [(1, [some [], some [], some []]), (4, [some [], some [], some [], none, none, some [], some [], none, none, none, none]), (5, [some [], some [], some [], none, none, some [], some [], none, none, none, none])]⟩)]
noncomputable def Xz.K0 : List Fr := framesAt [true, true, true, false, true, false] (bodyOf Tryz.f96 Xz.cuts) []
def Xz.N0 (a8 : Int) (a9 : Int) (f : Bool) (g : List Int) (h : Int) (b : Int) (b2 : Int) (b0 : Int) (b3 : Int) (b4 : Int) (b5 : Int) (i : Int) (j : Int) (l : Int) (m : Bool) (n : List Int) (d : Bool) (e : List Int) (o : Int) (p : Int) (q : Bool) (s : List Int) (t : Bool) (u : List Int) (v : Bool) (w : List T) (y : Bool) (c : List T) : St := stOf 55 55 2 [(1, .bp 1 0), (2, .bp 2 0), (4, .bp 4 0), (5, .bp 5 0), (6, vi a8), (7, vi a9)] [(1, .cells [⟨(.nums 5 .u8 f g), [], false, none⟩, V.s (.int .i64 h), V.s (.int .i64 b)]), (2, .cells [V.s (.int .i64 b2), V.s (.int .i64 b0), V.s (.int .i64 b3), V.s (.int .i64 b4), V.s (.int .i64 b5)]), (4, .cells [V.s (.int .i64 0), V.s (.int .i64 0), V.s (.int .i64 0), ⟨(.nums 5 .u8 true ([] : List Int)), [.l 4 4], true, some (.l 4 4)⟩, ⟨(.nums 5 .u8 true ([] : List Int)), [.l 4 5], true, some (.l 4 5)⟩, V.s (.int .i64 0), V.s (.int .i64 0), ⟨(.nums 5 .u8 true ([] : List Int)), [.l 4 8], true, some (.l 4 8)⟩, ⟨(.nums 5 .u8 true ([] : List Int)), [.l 4 9], true, some (.l 4 9)⟩, ⟨(.sl 24 true ([] : List T)), [.l 4 10], true, some (.l 4 10)⟩, ⟨(.sl 24 true ([] : List T)), [.l 4 11], true, some (.l 4 11)⟩]), (5, .cells [V.s (.int .i64 i), V.s (.int .i64 j), V.s (.int .i64 l), ⟨(.nums 5 .u8 m n), [.l 5 4], true, some (.l 5 4)⟩, ⟨(.nums 5 .u8 d e), [.l 5 5], true, some (.l 5 5)⟩, V.s (.int .i64 o), V.s (.int .i64 p), ⟨(.nums 5 .u8 q s), [.l 5 8], true, some (.l 5 8)⟩, ⟨(.nums 5 .u8 t u), [.l 5 9], true, some (.l 5 9)⟩, ⟨(.sl 24 v w), [.l 5 10], true, some (.l 5 10)⟩, ⟨(.sl 24 y c), [.l 5 11], true, some (.l 5 11)⟩])]
noncomputable def Xz.K1 : List Fr := framesAt [true, true, true] (bodyOf Tryz.f96 Xz.cuts) []
def Xz.N1 (f : Bool) (g : List Int) (h : Int) (b : Int) (i : Int) (j : Int) (l : Int) (m : Bool) (n : List Int) (d : Bool) (e : List Int) (o : Int) (p : Int) (q : Bool) (s : List Int) (t : Bool) (u : List Int) (v : Bool) (w : List T) (y : Bool) (c : List T) : St := stOf 55 55 2 [(1, .bp 1 0), (4, .bp 4 0), (5, .bp 5 0)] [(1, .cells [⟨(.nums 5 .u8 f g), [], false, none⟩, V.s (.int .i64 h), V.s (.int .i64 b)]), (4, .cells [V.s (.int .i64 0), V.s (.int .i64 0), V.s (.int .i64 0), ⟨(.nums 5 .u8 true ([] : List Int)), [.l 4 4], true, some (.l 4 4)⟩, ⟨(.nums 5 .u8 true ([] : List Int)), [.l 4 5], true, some (.l 4 5)⟩, V.s (.int .i64 0), V.s (.int .i64 0), ⟨(.nums 5 .u8 true ([] : List Int)), [.l 4 8], true, some (.l 4 8)⟩, ⟨(.nums 5 .u8 true ([] : List Int)), [.l 4 9], true, some (.l 4 9)⟩, ⟨(.sl 24 true ([] : List T)), [.l 4 10], true, some (.l 4 10)⟩, ⟨(.sl 24 true ([] : List T)), [.l 4 11], true, some (.l 4 11)⟩]), (5, .cells [V.s (.int .i64 i), V.s (.int .i64 j), V.s (.int .i64 l), ⟨(.nums 5 .u8 m n), [.l 5 4], true, some (.l 5 4)⟩, ⟨(.nums 5 .u8 d e), [.l 5 5], true, some (.l 5 5)⟩, V.s (.int .i64 o), V.s (.int .i64 p), ⟨(.nums 5 .u8 q s), [.l 5 8], true, some (.l 5 8)⟩, ⟨(.nums 5 .u8 t u), [.l 5 9], true, some (.l 5 9)⟩, ⟨(.sl 24 v w), [.l 5 10], true, some (.l 5 10)⟩, ⟨(.sl 24 y c), [.l 5 11], true, some (.l 5 11)⟩])]
set_option maxHeartbeats 0 in
set_option maxRecDepth 100000 in
theorem Xz.r (a0) (a1) (z) (a2) (a3) (a4) (a5) (a6) (a7) (k) : (∀ a8 a9 f g h b b2 b0 b3 b4 b5 i j l m n d e o p q s t u v w y c, rounds Tryz.prog (tb [Yai.F, XD.F, Yar.F, YaF.F, Yax.F, Yak.F]) (finish Tryz.prog [true, true, true, true, true, true, true, true, true, true, true, false, true, true] Tryz.f96 [.v (.agg [(.int .i64 a0), (.int .i64 a1), (.int .i64 z), (.int .i64 a2), (.int .i64 a3)]), .box [((.nums 5 .u8 a4 a5), false), ((.int .i64 a6), false), ((.int .i64 a7), false)]]) 100000 k Xz.K0 (Xz.N0 a8 a9 f g h b b2 b0 b3 b4 b5 i j l m n d e o p q s t u v w y c) = (Xz.l0 k a8 a9 f g h b b2 b0 b3 b4 b5 i j l m n d e o p q s t u v w y c).map Xz.enc) /\ (∀ f g h b i j l m n d e o p q s t u v w y c, rounds Tryz.prog (tb [Yai.F, XD.F, Yar.F, YaF.F, Yax.F, Yak.F]) (finish Tryz.prog [true, true, true, true, true, true, true, true, true, true, true, false, true, true] Tryz.f96 [.v (.agg [(.int .i64 a0), (.int .i64 a1), (.int .i64 z), (.int .i64 a2), (.int .i64 a3)]), .box [((.nums 5 .u8 a4 a5), false), ((.int .i64 a6), false), ((.int .i64 a7), false)]]) 100000 k Xz.K1 (Xz.N1 f g h b i j l m n d e o p q s t u v w y c) = (Xz.l1 k f g h b i j l m n d e o p q s t u v w y c).map Xz.enc) := by
 induction k with
 | zero => and_intros <;> intros <;> rfl
 | succ k ih =>
  have ⟨i0, i1⟩ := ih
  and_intros <;> intros <;> simp only [Xz.l0.eq_2, Xz.l1.eq_2, mc, mb, ms, mn, <- i0, <- i1, -eq_self] <;> kernel_rfl
set_option maxHeartbeats 0 in
set_option maxRecDepth 100000 in
def Xz.F : Fn := ⟨96, Xz.ans, sd Xz.ans Tryz.func96 [Yai.F, XD.F, Yar.F, YaF.F, Yax.F, Yak.F] Xz.cuts [true, true, true, true, true, true, true, true, true, true, true, false, true, true] (fun k x => by unfold Xz.ans; split; (right; rename_i a0 a1 z a2 a3 a4 a5 a6 a7; have ⟨i0, i1⟩ := Xz.r a0 a1 z a2 a3 a4 a5 a6 a7 k; change _ = Option.map Xz.enc _; simp only [Xz.f.eq_2, mc, mb, ms, mn, <- i0, <- i1, -eq_self]; kernel_rfl); exact .inl rfl) (fun x => by unfold Xz.ans; split <;> rfl)⟩
def YbK.f : Nat -> Int -> Int -> Int -> Int -> Int -> Bool -> (List Int) -> Int -> Option (Int × Int × Int × Bool × (List Int) × Bool × (List Int) × Int × Int × Bool × (List Int) × Bool × (List Int) × Bool × (List T) × Bool × (List T) × Int × Int)
 | 0, _, _, _, _, _, _, _, _ => none
 | k + 1, b, c, d, e, f, g, h, i => (XE.f k b c d e f).bind fun j => cond (!j) (some (0, 0, 0, true, ([] : List Int), true, ([] : List Int), 0, 0, true, ([] : List Int), true, ([] : List Int), true, ([] : List T), true, ([] : List T), 0, 5)) ((Xz.f k b c d e f g h i 0).bind fun a => cond (!(decide (a.2.2.2.2.2.2.2.2.2.2.2.2.2.2.2.2.2.2.2.2 = 0))) (some (0, 0, 0, true, ([] : List Int), true, ([] : List Int), 0, 0, true, ([] : List Int), true, ([] : List Int), true, ([] : List T), true, ([] : List T), 0, a.2.2.2.2.2.2.2.2.2.2.2.2.2.2.2.2.2.2.2.2)) (some (a.1, a.2.1, a.2.2.1, a.2.2.2.1, a.2.2.2.2.1, a.2.2.2.2.2.1, a.2.2.2.2.2.2.1, a.2.2.2.2.2.2.2.1, a.2.2.2.2.2.2.2.2.1, a.2.2.2.2.2.2.2.2.2.1, a.2.2.2.2.2.2.2.2.2.2.1, a.2.2.2.2.2.2.2.2.2.2.2.1, a.2.2.2.2.2.2.2.2.2.2.2.2.1, a.2.2.2.2.2.2.2.2.2.2.2.2.2.1, a.2.2.2.2.2.2.2.2.2.2.2.2.2.2.1, a.2.2.2.2.2.2.2.2.2.2.2.2.2.2.2.1, a.2.2.2.2.2.2.2.2.2.2.2.2.2.2.2.2.1, a.2.2.2.2.2.2.2.2.2.2.2.2.2.2.2.2.2.2.2.1, 0)))
def YbK.enc (r : Int × Int × Int × Bool × (List Int) × Bool × (List Int) × Int × Int × Bool × (List Int) × Bool × (List Int) × Bool × (List T) × Bool × (List T) × Int × Int) : Res := ⟨[.vals true [((.int .i64 r.1), true), ((.int .i64 r.2.1), true), ((.int .i64 r.2.2.1), true), ((.nums 5 .u8 r.2.2.2.1 r.2.2.2.2.1), true), ((.nums 5 .u8 r.2.2.2.2.2.1 r.2.2.2.2.2.2.1), true), ((.int .i64 r.2.2.2.2.2.2.2.1), true), ((.int .i64 (e8 r).1), true), ((.nums 5 .u8 (e8 r).2.1 (e8 r).2.2.1), true), ((.nums 5 .u8 (e8 r).2.2.2.1 (e8 r).2.2.2.2.1), true), ((.sl 24 (e8 r).2.2.2.2.2.1 (e8 r).2.2.2.2.2.2.1), true), ((.sl 24 (e8 r).2.2.2.2.2.2.2.1 (e8 (e8 r)).1), true)], .vals false [((.int .i64 (e8 (e8 r)).2.1), true)], .vals false [((.int .i64 (e8 (e8 r)).2.2), true)]], []⟩
def YbK.ans (k : Nat) : List Arg -> Ans
 | [.v (.agg [(.int .i64 b), (.int .i64 c), (.int .i64 d), (.int .i64 e), (.int .i64 f)]), .v (.nums 5 .u8 g h), .v (.int .i64 i), .v (.fn 96 [])] => ⟨YbK.f k b c d e f g h i, YbK.enc⟩
 | _ => Ans.no
def YbK.F : Fn := ⟨95, YbK.ans, sd YbK.ans Tryz.func95 [XE.F, Xz.F] [] [] (fun k x => by unfold YbK.ans; split; (right; change _ = Option.map YbK.enc _; simp only [YbK.f.eq_2, mc, mb, ms, mn, -eq_self]; kernel_rfl); exact .inl rfl) (fun x => by unfold YbK.ans; split <;> rfl)⟩
def YaX.f : Nat -> Int -> Int -> Int -> Int -> Int -> Bool -> (List Int) -> Int -> Option (Int × Int × Int × Bool × (List Int) × Bool × (List Int) × Int × Int × Bool × (List Int) × Bool × (List Int) × Bool × (List T) × Bool × (List T) × Int × Int)
 | 0, _, _, _, _, _, _, _, _ => none
 | k + 1, b, c, d, e, f, g, h, i => (YbK.f k b c d e f g h i).bind fun a => some (a.1, a.2.1, a.2.2.1, a.2.2.2.1, a.2.2.2.2.1, a.2.2.2.2.2.1, a.2.2.2.2.2.2.1, a.2.2.2.2.2.2.2.1, a.2.2.2.2.2.2.2.2.1, a.2.2.2.2.2.2.2.2.2.1, a.2.2.2.2.2.2.2.2.2.2.1, a.2.2.2.2.2.2.2.2.2.2.2.1, a.2.2.2.2.2.2.2.2.2.2.2.2.1, a.2.2.2.2.2.2.2.2.2.2.2.2.2.1, a.2.2.2.2.2.2.2.2.2.2.2.2.2.2.1, a.2.2.2.2.2.2.2.2.2.2.2.2.2.2.2.1, a.2.2.2.2.2.2.2.2.2.2.2.2.2.2.2.2.1, a.2.2.2.2.2.2.2.2.2.2.2.2.2.2.2.2.2.1, a.2.2.2.2.2.2.2.2.2.2.2.2.2.2.2.2.2.2)
def YaX.enc (r : Int × Int × Int × Bool × (List Int) × Bool × (List Int) × Int × Int × Bool × (List Int) × Bool × (List Int) × Bool × (List T) × Bool × (List T) × Int × Int) : Res := ⟨[.vals true [((.int .i64 r.1), true), ((.int .i64 r.2.1), true), ((.int .i64 r.2.2.1), true), ((.nums 5 .u8 r.2.2.2.1 r.2.2.2.2.1), true), ((.nums 5 .u8 r.2.2.2.2.2.1 r.2.2.2.2.2.2.1), true), ((.int .i64 r.2.2.2.2.2.2.2.1), true), ((.int .i64 (e8 r).1), true), ((.nums 5 .u8 (e8 r).2.1 (e8 r).2.2.1), true), ((.nums 5 .u8 (e8 r).2.2.2.1 (e8 r).2.2.2.2.1), true), ((.sl 24 (e8 r).2.2.2.2.2.1 (e8 r).2.2.2.2.2.2.1), true), ((.sl 24 (e8 r).2.2.2.2.2.2.2.1 (e8 (e8 r)).1), true)], .vals false [((.int .i64 (e8 (e8 r)).2.1), true)], .vals false [((.int .i64 (e8 (e8 r)).2.2), true)]], []⟩
def YaX.ans (k : Nat) : List Arg -> Ans
 | [.v (.agg [(.int .i64 b), (.int .i64 c), (.int .i64 d), (.int .i64 e), (.int .i64 f)]), .v (.nums 5 .u8 g h), .v (.int .i64 i)] => ⟨YaX.f k b c d e f g h i, YaX.enc⟩
 | _ => Ans.no
def YaX.F : Fn := ⟨64, YaX.ans, sd YaX.ans Tryz.func64 [YbK.F] [] [] (fun k x => by unfold YaX.ans; split; (right; change _ = Option.map YaX.enc _; simp only [YaX.f.eq_2, mc, mb, ms, mn, -eq_self]; kernel_rfl); exact .inl rfl) (fun x => by unfold YaX.ans; split <;> rfl)⟩
end Go.Proofs.YthocpcfjfgnkgaaGreatG
