/- What the functions compute, printed by a program of this repo; each is shown to be what the machine of values answers. Names are short, for the claim's size. No condition. -/
import Derived.Test.YthocpcfjfgnkgaaGreatProg
import Derived.KernelRfl
import Derived.Test.YthocpcfjfgnkgaaGreatRvD
namespace Go.Proofs.YthocpcfjfgnkgaaGreatG
open Go Go.Proofs.YthocpcfjfgnkgaaGreatRv Go.Proofs Go.RowKit
set_option linter.unusedVariables false
set_option linter.unusedSimpArgs false
theorem mixed : Tryz.prog.follows .mixedOrders = true := by kernel_rfl
structure Fn where
 n : Nat
 a : Nat -> List Arg -> Ans
 s : ∀ k, SoundF Tryz.prog n fun x => (a k x).val
def tb (l : List Fn) (k : Nat) : CallSem := tab (l.map fun f => (f.n, f.a k))
theorem qbG (k : Nat) : ∀ l : List Fn, TabOk Tryz.prog (l.map fun f => (f.n, f.a k))
 | [] => trivial
 | f :: l => ⟨f.s k, qbG k l⟩
theorem sd {n : Nat} {F : Func} (a : Nat -> List Arg -> Ans) (hf : Tryz.prog.funcs[n]? = some F) (l : List Fn) (cuts : List (Nat × Keep)) (al : List Bool) (h : ∀ k x, (a (k + 1) x).val = none ∨ answer Tryz.prog (tb l) 100000 cuts al F (k + 1) x = (a (k + 1) x).val) (h0 : ∀ x, (a 0 x).val = none)
  (h2 : ∀ k t n, a k [.own t, .v (.int .i64 n)] = Ans.no := by exact fun _ _ _ => rfl) (h3 : ∀ k t, a k [.own t] = Ans.no := by exact fun _ _ => rfl) : ∀ k, SoundF Tryz.prog n fun x => (a k x).val := fun k => by
 refine qw (fun args res q => ?_) (h2 k) (h3 k)
 dsimp only at q
 cases k with
 | zero => rw [h0] at q; cases q
 | succ k =>
  rcases h k args with e | e
  ·rw [e] at q; cases q
  ·rw [<- e] at q
   exact qB mixed hf _ _ _ (k + 1) (fun j _ => qu (qbG j l)) _ _ q
abbrev e8 {A B C D E F G H I : Type} (r : A × B × C × D × E × F × G × H × I) : I := r.2.2.2.2.2.2.2.2
abbrev vi (n : Int) : TV := .val (V.s (.int .i64 n))
theorem mc {R R' : Type} (e : R -> R') (c : Bool) (x y : Option R) : (cond c x y).map e = cond c (x.map e) (y.map e) := by cases c <;> rfl
theorem mb {α R R' : Type} (e : R -> R') (o : Option α) (f : α -> Option R) : (o.bind f).map e = o.bind fun t => (f t).map e := by cases o <;> rfl
theorem ms {R R' : Type} (e : R -> R') (r : R) : (some r).map e = some (e r) := rfl
theorem mn {R R' : Type} (e : R -> R') : (none : Option R).map e = none := rfl
def YbS.f : Nat -> Bool -> (List Int) -> Int -> Option Int
 | 0, _, _, _ => none
 | k + 1, c, a, b => cond (decide ((wrap64 (b - ((a).length : Int))) < 0)) (some (-1)) (some (wrap64 (b - ((a).length : Int))))
def YbS.enc (r : Int) : Res := ⟨[.vals false [((.int .i64 r), true)]], []⟩
def YbS.ans (k : Nat) : List Arg -> Ans
 | [.v (.nums 5 .u8 c a), .v (.int .i64 b)] => ⟨YbS.f k c a b, YbS.enc⟩
 | _ => Ans.no
def YbS.F : Fn := ⟨32, YbS.ans, sd YbS.ans Tryz.func32 [] [] [] (fun k x => by unfold YbS.ans; split; (right; change _ = Option.map YbS.enc _; simp only [YbS.f.eq_2, mc, mb, ms, mn, -eq_self]; kernel_rfl); exact .inl rfl) (fun x => by unfold YbS.ans; split <;> rfl)⟩
def YbT.f : Nat -> Int -> Bool -> (List Int) -> Int -> Option Int
 | 0, _, _, _, _ => none
 | k + 1, d, a, b, c => (YbS.f k a b c).bind fun e => cond (decide (e < 0)) (some (-1)) (some e)
def YbT.enc (r : Int) : Res := ⟨[.vals false [((.int .i64 r), true)]], []⟩
def YbT.ans (k : Nat) : List Arg -> Ans
 | [.v (.agg [(.int .i64 d), (.nums 5 .u8 a b)]), .v (.int .i64 c)] => ⟨YbT.f k d a b c, YbT.enc⟩
 | _ => Ans.no
def YbT.F : Fn := ⟨14, YbT.ans, sd YbT.ans Tryz.func14 [YbS.F] [] [] (fun k x => by unfold YbT.ans; split; (right; change _ = Option.map YbT.enc _; simp only [YbT.f.eq_2, mc, mb, ms, mn, -eq_self]; kernel_rfl); exact .inl rfl) (fun x => by unfold YbT.ans; split <;> rfl)⟩
def YaJ.f : Nat -> Int -> Int -> Int -> Int -> Int -> Option (Int × Int × Int × Int × Int)
 | 0, _, _, _, _, _ => none
 | k + 1, a, b, c, d, e => some (a, b, c, d, e)
def YaJ.enc (r : Int × Int × Int × Int × Int) : Res := ⟨[.vals true [((.int .i64 r.1), true), ((.int .i64 r.2.1), true), ((.int .i64 r.2.2.1), true), ((.int .i64 r.2.2.2.1), true), ((.int .i64 r.2.2.2.2), true)]], []⟩
def YaJ.ans (k : Nat) : List Arg -> Ans
 | [.v (.agg [(.int .i64 a), (.int .i64 b), (.int .i64 c), (.int .i64 d), (.int .i64 e)])] => ⟨YaJ.f k a b c d e, YaJ.enc⟩
 | _ => Ans.no
def YaJ.F : Fn := ⟨6, YaJ.ans, sd YaJ.ans Tryz.func6 [] [] [] (fun k x => by unfold YaJ.ans; split; (right; change _ = Option.map YaJ.enc _; simp only [YaJ.f.eq_2, mc, mb, ms, mn, -eq_self]; kernel_rfl); exact .inl rfl) (fun x => by unfold YaJ.ans; split <;> rfl)⟩
def XN.l0 : Nat -> Bool -> (List Int) -> (List Int) -> Int -> Option (Bool × List Int)
 | 0, _, _, _, _ => none
 | k + 1, f, c, d, a => cond (decide (a < ((c).length : Int))) (cond (decide ((0 : Int) <= a)) (cond (decide (a < ((c).length : Int))) (cond (decide ((0 : Int) <= a)) (cond (decide (a < ((d).length : Int))) (XN.l0 k f c ((d).set (a).toNat (rdI c a)) (wrap64 (a + 1))) (none)) (none)) (none)) (none)) (some (false, d))
def XN.f : Nat -> Bool -> (List Int) -> Option (Bool × List Int)
 | 0, _, _ => none
 | k + 1, e, b => cond (decide (((b).length : Int) = ((b).length : Int))) (cond (decide ((0 : Int) <= ((b).length : Int))) (cond (decide ((b).length < 140737488355328)) (XN.l0 k e b (List.replicate (b).length (0 : Int)) 0) (none)) (none)) (none)
def XN.enc (r : Bool × List Int) : Res := ⟨[.vals false [((.nums 5 .u8 r.1 r.2), true)]], []⟩
def XN.ans (k : Nat) : List Arg -> Ans
 | [.v (.nums 5 .u8 e b)] => ⟨XN.f k e b, XN.enc⟩
 | _ => Ans.no
def XN.cuts : List (Nat × Keep) := [(58, ⟨[(0, some []), (3, none), (4, some [])], []⟩)]
noncomputable def XN.K0 : List Fr := framesAt [true, true, false, true, false] (bodyOf Tryz.f7 XN.cuts) []
def XN.N0 (f : Bool) (c : List Int) (d : List Int) (a : Int) : St := stOf 22 22 1 [(0, .val ⟨(.nums 5 .u8 f c), [], false, none⟩), (3, .val ⟨(.nums 5 .u8 false d), [.l 3 0], true, some (.l 3 0)⟩), (4, vi a)] []
theorem XN.r (e) (b) (k) : (∀ f c d a, rounds Tryz.prog (tb []) (finish Tryz.prog [] Tryz.f7 [.v (.nums 5 .u8 e b)]) 100000 k XN.K0 (XN.N0 f c d a) = (XN.l0 k f c d a).map XN.enc) := by
 induction k with
 | zero => intros <;> rfl
 | succ k ih =>
  have i0 := ih
  intros <;> simp only [XN.l0.eq_2, mc, mb, ms, mn, <- i0, -eq_self] <;> kernel_rfl
def XN.F : Fn := ⟨7, XN.ans, sd XN.ans Tryz.func7 [] XN.cuts [] (fun k x => by unfold XN.ans; split; (right; rename_i e b; have i0 := XN.r e b k; change _ = Option.map XN.enc _; simp only [XN.f.eq_2, mc, mb, ms, mn, <- i0, -eq_self]; kernel_rfl); exact .inl rfl) (fun x => by unfold XN.ans; split <;> rfl)⟩
def YbQ.f : Nat -> Int -> Bool -> (List Int) -> Option (Int × Bool × List Int)
 | 0, _, _, _ => none
 | k + 1, a, b, c => (XN.f k b c).bind fun d => some (a, d.1, d.2)
def YbQ.enc (r : Int × Bool × List Int) : Res := ⟨[.vals true [((.int .i64 r.1), true), ((.nums 5 .u8 r.2.1 r.2.2), true)]], []⟩
def YbQ.ans (k : Nat) : List Arg -> Ans
 | [.v (.agg [(.int .i64 a), (.nums 5 .u8 b c)])] => ⟨YbQ.f k a b c, YbQ.enc⟩
 | _ => Ans.no
def YbQ.F : Fn := ⟨16, YbQ.ans, sd YbQ.ans Tryz.func16 [XN.F] [] [] (fun k x => by unfold YbQ.ans; split; (right; change _ = Option.map YbQ.enc _; simp only [YbQ.f.eq_2, mc, mb, ms, mn, -eq_self]; kernel_rfl); exact .inl rfl) (fun x => by unfold YbQ.ans; split <;> rfl)⟩
def XI.f : Nat -> Int -> Int -> Int -> Option Bool
 | 0, _, _, _ => none
 | k + 1, a, b, c => cond (decide (a >= b)) (some (decide (a <= c))) (some false)
def XI.enc (r : Bool) : Res := ⟨[.vals false [((.bool r), true)]], []⟩
def XI.ans (k : Nat) : List Arg -> Ans
 | [.v (.int .i64 a), .v (.int .i64 b), .v (.int .i64 c)] => ⟨XI.f k a b c, XI.enc⟩
 | _ => Ans.no
def XI.F : Fn := ⟨36, XI.ans, sd XI.ans Tryz.func36 [] [] [] (fun k x => by unfold XI.ans; split; (right; change _ = Option.map XI.enc _; simp only [XI.f.eq_2, mc, mb, ms, mn, -eq_self]; kernel_rfl); exact .inl rfl) (fun x => by unfold XI.ans; split <;> rfl)⟩
def YaB.f : Nat -> Int -> Option Bool
 | 0, _ => none
 | k + 1, a => (XI.f k a 1 10).bind fun b => some b
def YaB.enc (r : Bool) : Res := ⟨[.vals false [((.bool r), true)]], []⟩
def YaB.ans (k : Nat) : List Arg -> Ans
 | [.v (.int .i64 a)] => ⟨YaB.f k a, YaB.enc⟩
 | _ => Ans.no
def YaB.F : Fn := ⟨35, YaB.ans, sd YaB.ans Tryz.func35 [XI.F] [] [] (fun k x => by unfold YaB.ans; split; (right; change _ = Option.map YaB.enc _; simp only [YaB.f.eq_2, mc, mb, ms, mn, -eq_self]; kernel_rfl); exact .inl rfl) (fun x => by unfold YaB.ans; split <;> rfl)⟩
def Yaq.f : Nat -> Int -> Int -> Int -> Int -> Int -> Option Bool
 | 0, _, _, _, _, _ => none
 | k + 1, a, b, c, d, e => (YaB.f k a).bind fun f => cond f ((XI.f k b 0 40).bind fun g => cond g ((XI.f k c 0 8).bind fun h => cond h ((XI.f k d 1 4000).bind fun i => cond i ((XI.f k e 3 5).bind fun j => some j) (some false)) (some false)) (some false)) (some false)
def Yaq.enc (r : Bool) : Res := ⟨[.vals false [((.bool r), true)]], []⟩
def Yaq.ans (k : Nat) : List Arg -> Ans
 | [.v (.agg [(.int .i64 a), (.int .i64 b), (.int .i64 c), (.int .i64 d), (.int .i64 e)])] => ⟨Yaq.f k a b c d e, Yaq.enc⟩
 | _ => Ans.no
def Yaq.F : Fn := ⟨20, Yaq.ans, sd Yaq.ans Tryz.func20 [YaB.F, XI.F] [] [] (fun k x => by unfold Yaq.ans; split; (right; change _ = Option.map Yaq.enc _; simp only [Yaq.f.eq_2, mc, mb, ms, mn, -eq_self]; kernel_rfl); exact .inl rfl) (fun x => by unfold Yaq.ans; split <;> rfl)⟩
def YbU.f : Nat -> Int -> Option Bool
 | 0, _ => none
 | k + 1, a => (XI.f k a 0 1152921504606846975).bind fun b => some b
def YbU.enc (r : Bool) : Res := ⟨[.vals false [((.bool r), true)]], []⟩
def YbU.ans (k : Nat) : List Arg -> Ans
 | [.v (.int .i64 a)] => ⟨YbU.f k a, YbU.enc⟩
 | _ => Ans.no
def YbU.F : Fn := ⟨44, YbU.ans, sd YbU.ans Tryz.func44 [XI.F] [] [] (fun k x => by unfold YbU.ans; split; (right; change _ = Option.map YbU.enc _; simp only [YbU.f.eq_2, mc, mb, ms, mn, -eq_self]; kernel_rfl); exact .inl rfl) (fun x => by unfold YbU.ans; split <;> rfl)⟩
def XP.l0 : Nat -> Bool -> (List Int) -> Int -> Int -> Int -> Int -> Option (Int × Int × Int)
 | 0, _, _, _, _, _, _ => none
 | k + 1, j, e, a, g, h, b => cond (decide (b >= 0)) (cond (decide ((0 : Int) <= (wrap64 (a + b)))) (cond (decide ((wrap64 (a + b)) < ((e).length : Int))) (XP.l0 k j e a g (wrap64 ((wrap64 (h * 256)) + (wrap64 ((rdI e (wrap64 (a + b))))))) (wrap64 (b - 1))) (none)) (none)) (some (h, (wrap64 (a + g)), 0))
def XP.f : Nat -> Bool -> (List Int) -> Int -> Int -> Option (Int × Int × Int)
 | 0, _, _, _, _ => none
 | k + 1, i, f, d, c => (XI.f k c 1 7).bind fun l => cond (!l) (some (0, 0, 5)) (cond (decide (d < 0)) (some (0, 0, 1)) (cond (decide (d > (wrap64 (((f).length : Int) - c)))) (some (0, 0, 1)) (XP.l0 k i f d c 0 (wrap64 (c - 1)))))
def XP.enc (r : Int × Int × Int) : Res := ⟨[.vals false [((.int .i64 r.1), true)], .vals false [((.int .i64 r.2.1), true)], .vals false [((.int .i64 r.2.2), true)]], []⟩
def XP.ans (k : Nat) : List Arg -> Ans
 | [.v (.nums 5 .u8 i f), .v (.int .i64 d), .v (.int .i64 c)] => ⟨XP.f k i f d c, XP.enc⟩
 | _ => Ans.no
def XP.cuts : List (Nat × Keep) := [(250, ⟨[(0, some []), (1, some []), (2, some []), (9, some []), (10, some [])], []⟩)]
noncomputable def XP.K0 : List Fr := framesAt [true, true, true, true, false, true, false] (bodyOf Tryz.f46 XP.cuts) []
def XP.N0 (j : Bool) (e : List Int) (a : Int) (g : Int) (h : Int) (b : Int) : St := stOf 44 44 3 [(0, .val ⟨(.nums 5 .u8 j e), [], false, none⟩), (1, vi a), (2, vi g), (9, vi h), (10, vi b)] []
theorem XP.r (i) (f) (d) (c) (k) : (∀ j e a g h b, rounds Tryz.prog (tb [XI.F]) (finish Tryz.prog [] Tryz.f46 [.v (.nums 5 .u8 i f), .v (.int .i64 d), .v (.int .i64 c)]) 100000 k XP.K0 (XP.N0 j e a g h b) = (XP.l0 k j e a g h b).map XP.enc) := by
 induction k with
 | zero => intros <;> rfl
 | succ k ih =>
  have i0 := ih
  intros <;> simp only [XP.l0.eq_2, mc, mb, ms, mn, <- i0, -eq_self] <;> kernel_rfl
def XP.F : Fn := ⟨46, XP.ans, sd XP.ans Tryz.func46 [XI.F] XP.cuts [] (fun k x => by unfold XP.ans; split; (right; rename_i i f d c; have i0 := XP.r i f d c k; change _ = Option.map XP.enc _; simp only [XP.f.eq_2, mc, mb, ms, mn, <- i0, -eq_self]; kernel_rfl); exact .inl rfl) (fun x => by unfold XP.ans; split <;> rfl)⟩
def YaK.f : Nat -> Int -> Option Bool
 | 0, _ => none
 | k + 1, a => (XI.f k a 0 4294967295).bind fun b => some b
def YaK.enc (r : Bool) : Res := ⟨[.vals false [((.bool r), true)]], []⟩
def YaK.ans (k : Nat) : List Arg -> Ans
 | [.v (.int .i64 a)] => ⟨YaK.f k a, YaK.enc⟩
 | _ => Ans.no
def YaK.F : Fn := ⟨106, YaK.ans, sd YaK.ans Tryz.func106 [XI.F] [] [] (fun k x => by unfold YaK.ans; split; (right; change _ = Option.map YaK.enc _; simp only [YaK.f.eq_2, mc, mb, ms, mn, -eq_self]; kernel_rfl); exact .inl rfl) (fun x => by unfold YaK.ans; split <;> rfl)⟩
def YaL.f : Nat -> Int -> Option Int
 | 0, _ => none
 | k + 1, a => cond (decide ((Int.tmod a 2) = 1)) (some (Go.bits .xor .i64 (wrap64 (Int.tdiv a 2)) 3988292384)) (some (wrap64 (Int.tdiv a 2)))
def YaL.enc (r : Int) : Res := ⟨[.vals false [((.int .i64 r), true)]], []⟩
def YaL.ans (k : Nat) : List Arg -> Ans
 | [.v (.int .i64 a)] => ⟨YaL.f k a, YaL.enc⟩
 | _ => Ans.no
def YaL.F : Fn := ⟨107, YaL.ans, sd YaL.ans Tryz.func107 [] [] [] (fun k x => by unfold YaL.ans; split; (right; change _ = Option.map YaL.enc _; simp only [YaL.f.eq_2, mc, mb, ms, mn, -eq_self]; kernel_rfl); exact .inl rfl) (fun x => by unfold YaL.ans; split <;> rfl)⟩
mutual
def Xy.l0 : Nat -> Int -> Bool -> (List Int) -> Int -> Int -> Option Int
 | 0, _, _, _, _, _ => none
 | k + 1, c, e, b, d, a => cond (decide (a < d)) (cond (decide ((0 : Int) <= a)) (cond (decide (a < ((b).length : Int))) (Xy.l1 k (Go.bits .xor .i64 c (wrap64 ((rdI b a)))) 0 e b d a) (none)) (none)) (some (Go.bits .xor .i64 c 4294967295))
def Xy.l1 : Nat -> Int -> Int -> Bool -> (List Int) -> Int -> Int -> Option Int
 | 0, _, _, _, _, _, _ => none
 | k + 1, c, i, e, b, d, a => cond (decide (i < 8)) ((YaL.f k c).bind fun j => Xy.l1 k j (wrap64 (i + 1)) e b d a) (Xy.l0 k c e b d (wrap64 (a + 1)))
end
def Xy.f : Nat -> Int -> Bool -> (List Int) -> Option Int
 | 0, _, _, _ => none
 | k + 1, f, h, g => (YaK.f k f).bind fun j => cond (!j) (some 0) (Xy.l0 k (Go.bits .xor .i64 f 4294967295) h g ((g).length : Int) 0)
def Xy.enc (r : Int) : Res := ⟨[.vals false [((.int .i64 r), true)]], []⟩
def Xy.ans (k : Nat) : List Arg -> Ans
 | [.v (.int .i64 f), .v (.nums 5 .u8 h g)] => ⟨Xy.f k f h g, Xy.enc⟩
 | _ => Ans.no
def Xy.cuts : List (Nat × Keep) := [(122, ⟨[(5, some []), (14, some []), (15, some []), (16, some [])], []⟩), (62670, ⟨[(5, some []), (8, some []), (14, some []), (15, some []), (16, some [])], []⟩)]
noncomputable def Xy.K0 : List Fr := framesAt [true, true, true, false, true, false] (bodyOf Tryz.f75 Xy.cuts) []
def Xy.N0 (c : Int) (e : Bool) (b : List Int) (d : Int) (a : Int) : St := stOf 33 33 2 [(5, vi c), (14, .val ⟨(.nums 5 .u8 e b), [], false, none⟩), (15, vi d), (16, vi a)] []
noncomputable def Xy.K1 : List Fr := framesAt [true, true, true, false, true, false, false, true, true, false, false, true, true, true, false] (bodyOf Tryz.f75 Xy.cuts) []
def Xy.N1 (c : Int) (i : Int) (e : Bool) (b : List Int) (d : Int) (a : Int) : St := stOf 33 33 2 [(5, vi c), (8, vi i), (14, .val ⟨(.nums 5 .u8 e b), [], false, none⟩), (15, vi d), (16, vi a)] []
theorem Xy.r (f) (h) (g) (k) : (∀ c e b d a, rounds Tryz.prog (tb [YaK.F, YaL.F]) (finish Tryz.prog [] Tryz.f75 [.v (.int .i64 f), .v (.nums 5 .u8 h g)]) 100000 k Xy.K0 (Xy.N0 c e b d a) = (Xy.l0 k c e b d a).map Xy.enc) /\ (∀ c i e b d a, rounds Tryz.prog (tb [YaK.F, YaL.F]) (finish Tryz.prog [] Tryz.f75 [.v (.int .i64 f), .v (.nums 5 .u8 h g)]) 100000 k Xy.K1 (Xy.N1 c i e b d a) = (Xy.l1 k c i e b d a).map Xy.enc) := by
 induction k with
 | zero => and_intros <;> intros <;> rfl
 | succ k ih =>
  have ⟨i0, i1⟩ := ih
  and_intros <;> intros <;> simp only [Xy.l0.eq_2, Xy.l1.eq_2, mc, mb, ms, mn, <- i0, <- i1, -eq_self] <;> kernel_rfl
def Xy.F : Fn := ⟨75, Xy.ans, sd Xy.ans Tryz.func75 [YaK.F, YaL.F] Xy.cuts [] (fun k x => by unfold Xy.ans; split; (right; rename_i f h g; have ⟨i0, i1⟩ := Xy.r f h g k; change _ = Option.map Xy.enc _; simp only [Xy.f.eq_2, mc, mb, ms, mn, <- i0, <- i1, -eq_self]; kernel_rfl); exact .inl rfl) (fun x => by unfold Xy.ans; split <;> rfl)⟩
def Ybc.f : Nat -> Bool -> (List Int) -> Option Int
 | 0, _, _ => none
 | k + 1, a, b => (Xy.f k 0 a b).bind fun c => some c
def Ybc.enc (r : Int) : Res := ⟨[.vals false [((.int .i64 r), true)]], []⟩
def Ybc.ans (k : Nat) : List Arg -> Ans
 | [.v (.nums 5 .u8 a b)] => ⟨Ybc.f k a b, Ybc.enc⟩
 | _ => Ans.no
def Ybc.F : Fn := ⟨47, Ybc.ans, sd Ybc.ans Tryz.func47 [Xy.F] [] [] (fun k x => by unfold Ybc.ans; split; (right; change _ = Option.map Ybc.enc _; simp only [Ybc.f.eq_2, mc, mb, ms, mn, -eq_self]; kernel_rfl); exact .inl rfl) (fun x => by unfold Ybc.ans; split <;> rfl)⟩
def XJ.l0 : Nat -> Bool -> (List Int) -> Int -> Int -> Int -> Int -> Int -> Int -> Option (Int × Int)
 | 0, _, _, _, _, _, _, _, _ => none
 | k + 1, l, d, a, o, p, q, n, s => cond (decide ((wrap64 (((d).length : Int) - a)) < 4)) (some (1, 0)) ((XP.f k l d (wrap64 (a + 2)) 2).bind fun e => (XI.f k e.1 1 n).bind fun t => cond (!t) (some (0, 0)) (cond (decide ((wrap64 (((d).length : Int) - a)) < (wrap64 ((8 : Int) + e.1)))) (some (1, (wrap64 ((8 : Int) + e.1)))) ((XP.f k l d (wrap64 (a + 4)) 4).bind fun u => cond (decide ((0 : Int) <= (wrap64 ((wrap64 (a + 8)) + e.1)))) (cond (decide ((wrap64 ((wrap64 (a + 8)) + e.1)) <= ((d).length : Int))) (cond (decide ((0 : Int) <= (wrap64 (a + 8)))) (cond (decide ((wrap64 (a + 8)) <= (wrap64 ((wrap64 (a + 8)) + e.1)))) ((Ybc.f k l (((d).take ((wrap64 ((wrap64 (a + 8)) + e.1))).toNat).drop ((wrap64 (a + 8))).toNat)).bind fun v => cond (!(decide (u.1 = v))) (some (2, (wrap64 ((8 : Int) + e.1)))) (some (3, (wrap64 ((8 : Int) + e.1))))) (none)) (none)) (none)) (none))))
def XJ.f : Nat -> Int -> Int -> Int -> Int -> Int -> Bool -> (List Int) -> Int -> Option (Int × Int)
 | 0, _, _, _, _, _, _, _, _ => none
 | k + 1, f, g, h, i, j, m, c, b => (Yaq.f k f g h i j).bind fun e => cond (!e) (some (0, 0)) ((XI.f k b 0 (wrap64 (((c).length : Int) - 1))).bind fun t => cond (!t) (some (0, 0)) (cond (decide ((0 : Int) <= b)) (cond (decide (b < ((c).length : Int))) (cond (!(decide ((rdI c b) = 181))) (some (0, 0)) (cond (decide ((wrap64 (b + 1)) < ((c).length : Int))) (cond (decide ((0 : Int) <= (wrap64 (b + 1)))) (cond (decide ((wrap64 (b + 1)) < ((c).length : Int))) (cond (!(decide ((rdI c (wrap64 (b + 1))) = 70))) (some (0, 0)) (XJ.l0 k m c b f g h i j)) (none)) (none)) (XJ.l0 k m c b f g h i j))) (none)) (none)))
def XJ.enc (r : Int × Int) : Res := ⟨[.vals false [((.int .i64 r.1), true)], .vals false [((.int .i64 r.2), true)]], []⟩
def XJ.ans (k : Nat) : List Arg -> Ans
 | [.v (.agg [(.int .i64 f), (.int .i64 g), (.int .i64 h), (.int .i64 i), (.int .i64 j)]), .v (.nums 5 .u8 m c), .v (.int .i64 b)] => ⟨XJ.f k f g h i j m c b, XJ.enc⟩
 | _ => Ans.no
def XJ.cuts : List (Nat × Keep) := [(3, ⟨[(1, some []), (2, some []), (3, some [])], [(3, [some [], some [], some [], some [], some []])]⟩)]
noncomputable def XJ.K0 : List Fr := framesAt [true] (bodyOf Tryz.f37 XJ.cuts) []
def XJ.N0 (l : Bool) (d : List Int) (a : Int) (o : Int) (p : Int) (q : Int) (n : Int) (s : Int) : St := stOf 97 97 3 [(1, .val ⟨(.nums 5 .u8 l d), [], false, none⟩), (2, vi a), (3, .bp 3 0)] [(3, .cells [V.s (.int .i64 o), V.s (.int .i64 p), V.s (.int .i64 q), V.s (.int .i64 n), V.s (.int .i64 s)])]
theorem XJ.r (f) (g) (h) (i) (j) (m) (c) (b) (k) : (∀ l d a o p q n s, rounds Tryz.prog (tb [Yaq.F, XI.F, XP.F, Ybc.F]) (finish Tryz.prog [] Tryz.f37 [.v (.agg [(.int .i64 f), (.int .i64 g), (.int .i64 h), (.int .i64 i), (.int .i64 j)]), .v (.nums 5 .u8 m c), .v (.int .i64 b)]) 100000 k XJ.K0 (XJ.N0 l d a o p q n s) = (XJ.l0 k l d a o p q n s).map XJ.enc) := by
 induction k with
 | zero => intros <;> rfl
 | succ k ih =>
  have i0 := ih
  intros <;> simp only [XJ.l0.eq_2, mc, mb, ms, mn, <- i0, -eq_self] <;> kernel_rfl
def XJ.F : Fn := ⟨37, XJ.ans, sd XJ.ans Tryz.func37 [Yaq.F, XI.F, XP.F, Ybc.F] XJ.cuts [] (fun k x => by unfold XJ.ans; split; (right; rename_i f g h i j m c b; have i0 := XJ.r f g h i j m c b k; change _ = Option.map XJ.enc _; simp only [XJ.f.eq_2, mc, mb, ms, mn, <- i0, -eq_self]; kernel_rfl); exact .inl rfl) (fun x => by unfold XJ.ans; split <;> rfl)⟩
def YbV.f : Nat -> Int -> Int -> Int -> Int -> Int -> Int -> Bool -> (List Int) -> Option Bool
 | 0, _, _, _, _, _, _, _, _ => none
 | k + 1, a, b, c, d, e, g, h, f => (Yaq.f k a b c d e).bind fun i => cond (!i) (some false) ((YbU.f k g).bind fun j => cond (!j) (some false) ((XJ.f k a b c d e h f 0).bind fun l => cond (decide (((f).length : Int) = 0)) (some true) (some (decide (l.1 = 1)))))
def YbV.enc (r : Bool) : Res := ⟨[.vals false [((.bool r), true)]], []⟩
def YbV.ans (k : Nat) : List Arg -> Ans
 | [.v (.agg [(.int .i64 a), (.int .i64 b), (.int .i64 c), (.int .i64 d), (.int .i64 e)]), .v (.agg [(.int .i64 g), (.nums 5 .u8 h f)])] => ⟨YbV.f k a b c d e g h f, YbV.enc⟩
 | _ => Ans.no
def YbV.F : Fn := ⟨33, YbV.ans, sd YbV.ans Tryz.func33 [Yaq.F, YbU.F, XJ.F] [] [] (fun k x => by unfold YbV.ans; split; (right; change _ = Option.map YbV.enc _; simp only [YbV.f.eq_2, mc, mb, ms, mn, -eq_self]; kernel_rfl); exact .inl rfl) (fun x => by unfold YbV.ans; split <;> rfl)⟩
def YaG.f : Nat -> Int -> Int -> Int -> Int -> Int -> Bool -> (List Int) -> Int -> Option (Bool × (List Int) × Int × Int)
 | 0, _, _, _, _, _, _, _, _ => none
 | k + 1, d, e, f, g, h, a, b, c => (Yaq.f k d e f g h).bind fun i => cond (!i) (some (a, b, c, 5)) (some (a, b, c, 0))
def YaG.enc (r : Bool × (List Int) × Int × Int) : Res := ⟨[.box [((.nums 5 .u8 r.1 r.2.1), false), ((.int .i64 r.2.2.1), true), ((.int .i64 r.2.2.2), true)]], []⟩
def YaG.ans (k : Nat) : List Arg -> Ans
 | [.v (.agg [(.int .i64 d), (.int .i64 e), (.int .i64 f), (.int .i64 g), (.int .i64 h)]), .v (.nums 5 .u8 a b), .v (.int .i64 c)] => ⟨YaG.f k d e f g h a b c, YaG.enc⟩
 | _ => Ans.no
def YaG.F : Fn := ⟨48, YaG.ans, sd YaG.ans Tryz.func48 [Yaq.F] [] [false, true, true] (fun k x => by unfold YaG.ans; split; (right; change _ = Option.map YaG.enc _; simp only [YaG.f.eq_2, mc, mb, ms, mn, -eq_self]; kernel_rfl); exact .inl rfl) (fun x => by unfold YaG.ans; split <;> rfl)⟩
mutual
def Xq.l0 : Nat -> Bool -> (List Int) -> Int -> Int -> Int -> Int -> Option (Int × Int × Int)
 | 0, _, _, _, _, _, _ => none
 | k + 1, f, c, b, e, d, a => cond (decide (a < 9)) (cond (decide ((wrap64 (b + a)) >= ((c).length : Int))) (some (0, 0, 1)) (cond (decide ((0 : Int) <= (wrap64 (b + a)))) (cond (decide ((wrap64 (b + a)) < ((c).length : Int))) (cond (decide (a > 0)) (cond (decide ((wrap64 ((rdI c (wrap64 (b + a))))) = 0)) (some (0, 0, 2)) (cond (decide (a = 8)) (cond (decide ((wrap64 ((rdI c (wrap64 (b + a))))) >= 128)) (some (0, 0, 2)) (Xq.l1 k f c b e d a (wrap64 ((rdI c (wrap64 (b + a))))))) (Xq.l1 k f c b e d a (wrap64 ((rdI c (wrap64 (b + a)))))))) (cond (decide (a = 8)) (cond (decide ((wrap64 ((rdI c (wrap64 (b + a))))) >= 128)) (some (0, 0, 2)) (Xq.l1 k f c b e d a (wrap64 ((rdI c (wrap64 (b + a))))))) (Xq.l1 k f c b e d a (wrap64 ((rdI c (wrap64 (b + a)))))))) (none)) (none))) (some (0, 0, 2))
def Xq.l1 : Nat -> Bool -> (List Int) -> Int -> Int -> Int -> Int -> Int -> Option (Int × Int × Int)
 | 0, _, _, _, _, _, _, _ => none
 | k + 1, f, c, b, e, d, a, h => cond (decide (h < 128)) (cond (decide ((wrap64 (e + (wrap64 ((Int.tmod h 128) * d)))) > 1152921504606846975)) (some (0, 0, 2)) (some ((wrap64 (e + (wrap64 ((Int.tmod h 128) * d)))), (wrap64 ((wrap64 (b + a)) + 1)), 0))) (Xq.l0 k f c b (wrap64 (e + (wrap64 ((Int.tmod h 128) * d)))) (wrap64 (d * 128)) (wrap64 (a + 1)))
end
def Xq.f : Nat -> Bool -> (List Int) -> Int -> Option (Int × Int × Int)
 | 0, _, _, _ => none
 | k + 1, j, i, g => cond (decide (g < 0)) (some (0, 0, 1)) (cond (decide (g > ((i).length : Int))) (some (0, 0, 1)) (Xq.l0 k j i g 0 1 0))
def Xq.enc (r : Int × Int × Int) : Res := ⟨[.vals false [((.int .i64 r.1), true)], .vals false [((.int .i64 r.2.1), true)], .vals false [((.int .i64 r.2.2), true)]], []⟩
def Xq.ans (k : Nat) : List Arg -> Ans
 | [.v (.nums 5 .u8 j i), .v (.int .i64 g)] => ⟨Xq.f k j i g, Xq.enc⟩
 | _ => Ans.no
def Xq.cuts : List (Nat × Keep) := [(250, ⟨[(0, some []), (1, some []), (7, some []), (8, some []), (9, some [])], []⟩), (16019, ⟨[(0, some []), (1, some []), (7, some []), (8, some []), (9, some []), (10, some [])], []⟩)]
noncomputable def Xq.K0 : List Fr := framesAt [true, true, true, true, false, true, false] (bodyOf Tryz.f108 Xq.cuts) []
def Xq.N0 (f : Bool) (c : List Int) (b : Int) (e : Int) (d : Int) (a : Int) : St := stOf 67 67 2 [(0, .val ⟨(.nums 5 .u8 f c), [], false, none⟩), (1, vi b), (7, vi e), (8, vi d), (9, vi a)] []
noncomputable def Xq.K1 : List Fr := framesAt [true, true, true, true, false, true, false, false, true, false, false, true, true] (bodyOf Tryz.f108 Xq.cuts) []
def Xq.N1 (f : Bool) (c : List Int) (b : Int) (e : Int) (d : Int) (a : Int) (h : Int) : St := stOf 67 67 2 [(0, .val ⟨(.nums 5 .u8 f c), [], false, none⟩), (1, vi b), (7, vi e), (8, vi d), (9, vi a), (10, vi h)] []
theorem Xq.r (j) (i) (g) (k) : (∀ f c b e d a, rounds Tryz.prog (tb []) (finish Tryz.prog [] Tryz.f108 [.v (.nums 5 .u8 j i), .v (.int .i64 g)]) 100000 k Xq.K0 (Xq.N0 f c b e d a) = (Xq.l0 k f c b e d a).map Xq.enc) /\ (∀ f c b e d a h, rounds Tryz.prog (tb []) (finish Tryz.prog [] Tryz.f108 [.v (.nums 5 .u8 j i), .v (.int .i64 g)]) 100000 k Xq.K1 (Xq.N1 f c b e d a h) = (Xq.l1 k f c b e d a h).map Xq.enc) := by
 induction k with
 | zero => and_intros <;> intros <;> rfl
 | succ k ih =>
  have ⟨i0, i1⟩ := ih
  and_intros <;> intros <;> simp only [Xq.l0.eq_2, Xq.l1.eq_2, mc, mb, ms, mn, <- i0, <- i1, -eq_self] <;> kernel_rfl
def Xq.F : Fn := ⟨108, Xq.ans, sd Xq.ans Tryz.func108 [] Xq.cuts [] (fun k x => by unfold Xq.ans; split; (right; rename_i j i g; have ⟨i0, i1⟩ := Xq.r j i g k; change _ = Option.map Xq.enc _; simp only [Xq.f.eq_2, mc, mb, ms, mn, <- i0, <- i1, -eq_self]; kernel_rfl); exact .inl rfl) (fun x => by unfold Xq.ans; split <;> rfl)⟩
def Xr.f : Nat -> Bool -> (List Int) -> Int -> Int -> Option (Int × Bool × (List Int) × Int × Int)
 | 0, _, _, _, _ => none
 | k + 1, a, b, c, d => cond (!(decide (d = 0))) (some (0, a, b, c, d)) ((Xq.f k a b c).bind fun e => some (e.1, a, b, e.2.1, e.2.2))
def Xr.enc (r : Int × Bool × (List Int) × Int × Int) : Res := ⟨[.vals false [((.int .i64 r.1), true)]], [[((.nums 5 .u8 r.2.1 r.2.2.1), false), ((.int .i64 r.2.2.2.1), true), ((.int .i64 r.2.2.2.2), true)]]⟩
def Xr.ans (k : Nat) : List Arg -> Ans
 | [.box [((.nums 5 .u8 a b), false), ((.int .i64 c), false), ((.int .i64 d), false)]] => ⟨Xr.f k a b c d, Xr.enc⟩
 | _ => Ans.no
def Xr.F : Fn := ⟨76, Xr.ans, sd Xr.ans Tryz.func76 [Xq.F] [] [true, false, true, true] (fun k x => by unfold Xr.ans; split; (right; change _ = Option.map Xr.enc _; simp only [Xr.f.eq_2, mc, mb, ms, mn, -eq_self]; kernel_rfl); exact .inl rfl) (fun x => by unfold Xr.ans; split <;> rfl)⟩
def YaC.f : Nat -> Bool -> (List Int) -> Option (Bool × List Int)
 | 0, _, _ => none
 | k + 1, b, a => cond (decide (0 + (a).length < 140737488355328)) (some (((a).isEmpty && false), a)) (none)
def YaC.enc (r : Bool × List Int) : Res := ⟨[.vals false [((.nums 5 .u8 r.1 r.2), true)]], []⟩
def YaC.ans (k : Nat) : List Arg -> Ans
 | [.v (.nums 5 .u8 b a)] => ⟨YaC.f k b a, YaC.enc⟩
 | _ => Ans.no
def YaC.F : Fn := ⟨134, YaC.ans, sd YaC.ans Tryz.func134 [] [] [] (fun k x => by unfold YaC.ans; split; (right; change _ = Option.map YaC.enc _; simp only [YaC.f.eq_2, mc, mb, ms, mn, -eq_self]; kernel_rfl); exact .inl rfl) (fun x => by unfold YaC.ans; split <;> rfl)⟩
def YaD.f : Nat -> Bool -> (List Int) -> Int -> Int -> Option (Bool × (List Int) × Int × Int)
 | 0, _, _, _, _ => none
 | k + 1, d, c, a, b => cond (decide (a < 0)) (some (true, ([] : List Int), 0, 1)) (cond (decide (b < 0)) (some (true, ([] : List Int), 0, 1)) (cond (decide (a > ((c).length : Int))) (some (true, ([] : List Int), 0, 1)) (cond (decide (b > (wrap64 (((c).length : Int) - a)))) (some (true, ([] : List Int), 0, 1)) (cond (decide ((0 : Int) <= (wrap64 (a + b)))) (cond (decide ((wrap64 (a + b)) <= ((c).length : Int))) (cond (decide ((0 : Int) <= a)) (cond (decide (a <= (wrap64 (a + b)))) ((YaC.f k d (((c).take ((wrap64 (a + b))).toNat).drop (a).toNat)).bind fun e => some (e.1, e.2, (wrap64 (a + b)), 0)) (none)) (none)) (none)) (none)))))
def YaD.enc (r : Bool × (List Int) × Int × Int) : Res := ⟨[.vals false [((.nums 5 .u8 r.1 r.2.1), true)], .vals false [((.int .i64 r.2.2.1), true)], .vals false [((.int .i64 r.2.2.2), true)]], []⟩
def YaD.ans (k : Nat) : List Arg -> Ans
 | [.v (.nums 5 .u8 d c), .v (.int .i64 a), .v (.int .i64 b)] => ⟨YaD.f k d c a b, YaD.enc⟩
 | _ => Ans.no
def YaD.F : Fn := ⟨109, YaD.ans, sd YaD.ans Tryz.func109 [YaC.F] [] [] (fun k x => by unfold YaD.ans; split; (right; change _ = Option.map YaD.enc _; simp only [YaD.f.eq_2, mc, mb, ms, mn, -eq_self]; kernel_rfl); exact .inl rfl) (fun x => by unfold YaD.ans; split <;> rfl)⟩
def Yaa.f : Nat -> Bool -> (List Int) -> Int -> Int -> Option (Bool × (List Int) × Bool × (List Int) × Int × Int)
 | 0, _, _, _, _ => none
 | k + 1, a, b, c, d => cond (!(decide (d = 0))) (some (true, ([] : List Int), a, b, c, d)) ((YaD.f k a b c 32).bind fun e => some (e.1, e.2.1, a, b, e.2.2.1, e.2.2.2))
def Yaa.enc (r : Bool × (List Int) × Bool × (List Int) × Int × Int) : Res := ⟨[.vals false [((.nums 5 .u8 r.1 r.2.1), true)]], [[((.nums 5 .u8 r.2.2.1 r.2.2.2.1), false), ((.int .i64 r.2.2.2.2.1), true), ((.int .i64 r.2.2.2.2.2), true)]]⟩
def Yaa.ans (k : Nat) : List Arg -> Ans
 | [.box [((.nums 5 .u8 a b), false), ((.int .i64 c), false), ((.int .i64 d), false)]] => ⟨Yaa.f k a b c d, Yaa.enc⟩
 | _ => Ans.no
def Yaa.F : Fn := ⟨77, Yaa.ans, sd Yaa.ans Tryz.func77 [YaD.F] [] [true, false, true, true] (fun k x => by unfold Yaa.ans; split; (right; change _ = Option.map Yaa.enc _; simp only [Yaa.f.eq_2, mc, mb, ms, mn, -eq_self]; kernel_rfl); exact .inl rfl) (fun x => by unfold Yaa.ans; split <;> rfl)⟩
def Xt.f : Nat -> Bool -> (List Int) -> Int -> Int -> Bool -> Int -> Option (Bool × (List Int) × Int × Int)
 | 0, _, _, _, _, _, _ => none
 | k + 1, a, b, c, d, e, f => cond (decide (d = 0)) (cond e (some (a, b, c, f)) (some (a, b, c, d))) (some (a, b, c, d))
def Xt.enc (r : Bool × (List Int) × Int × Int) : Res := ⟨[], [[((.nums 5 .u8 r.1 r.2.1), false), ((.int .i64 r.2.2.1), true), ((.int .i64 r.2.2.2), true)]]⟩
def Xt.ans (k : Nat) : List Arg -> Ans
 | [.box [((.nums 5 .u8 a b), false), ((.int .i64 c), false), ((.int .i64 d), false)], .v (.bool e), .v (.int .i64 f)] => ⟨Xt.f k a b c d e f, Xt.enc⟩
 | _ => Ans.no
def Xt.F : Fn := ⟨56, Xt.ans, sd Xt.ans Tryz.func56 [] [] [false, true, true] (fun k x => by unfold Xt.ans; split; (right; change _ = Option.map Xt.enc _; simp only [Xt.f.eq_2, mc, mb, ms, mn, -eq_self]; kernel_rfl); exact .inl rfl) (fun x => by unfold Xt.ans; split <;> rfl)⟩
def Ybd.f : Nat -> Int -> Int -> Int -> Int -> Int -> Bool -> (List Int) -> Int -> Option (Int × Int × Bool × (List Int) × Int × Bool × (List Int) × Int × Int)
 | 0, _, _, _, _, _, _, _, _ => none
 | k + 1, f, i, j, l, m, n, o, p => (YaG.f k f i j l m n o p).bind fun g => (Xr.f k g.1 g.2.1 g.2.2.1 g.2.2.2).bind fun c => (Xr.f k c.2.1 c.2.2.1 c.2.2.2.1 c.2.2.2.2).bind fun d => (Yaa.f k d.2.1 d.2.2.1 d.2.2.2.1 d.2.2.2.2).bind fun a => (Xr.f k a.2.2.1 a.2.2.2.1 a.2.2.2.2.1 a.2.2.2.2.2).bind fun b => (Xt.f k b.2.1 b.2.2.1 b.2.2.2.1 b.2.2.2.2 (decide (b.1 >= f)) 5).bind fun h => (Yaa.f k h.1 h.2.1 h.2.2.1 h.2.2.2).bind fun e => cond (!(decide (e.2.2.2.2.2 = 0))) (some (0, 0, true, ([] : List Int), 0, true, ([] : List Int), 0, e.2.2.2.2.2)) (some (c.1, d.1, a.1, a.2.1, b.1, e.1, e.2.1, e.2.2.2.2.1, 0))
def Ybd.enc (r : Int × Int × Bool × (List Int) × Int × Bool × (List Int) × Int × Int) : Res := ⟨[.vals true [((.int .i64 r.1), true), ((.int .i64 r.2.1), true), ((.nums 5 .u8 r.2.2.1 r.2.2.2.1), true), ((.int .i64 r.2.2.2.2.1), true), ((.nums 5 .u8 r.2.2.2.2.2.1 r.2.2.2.2.2.2.1), true)], .vals false [((.int .i64 r.2.2.2.2.2.2.2.1), true)], .vals false [((.int .i64 (e8 r)), true)]], []⟩
def Ybd.ans (k : Nat) : List Arg -> Ans
 | [.v (.agg [(.int .i64 f), (.int .i64 i), (.int .i64 j), (.int .i64 l), (.int .i64 m)]), .v (.nums 5 .u8 n o), .v (.int .i64 p)] => ⟨Ybd.f k f i j l m n o p, Ybd.enc⟩
 | _ => Ans.no
def Ybd.F : Fn := ⟨49, Ybd.ans, sd Ybd.ans Tryz.func49 [YaG.F, Xr.F, Yaa.F, Xt.F] [] [] (fun k x => by unfold Ybd.ans; split; (right; change _ = Option.map Ybd.enc _; simp only [Ybd.f.eq_2, mc, mb, ms, mn, -eq_self]; kernel_rfl); exact .inl rfl) (fun x => by unfold Ybd.ans; split <;> rfl)⟩
def YaM.f : Nat -> Int -> Option Int
 | 0, _ => none
 | k + 1, a => cond (decide (a < 1)) (some 0) (some (wrap64 ((wrap64 (Int.tdiv (wrap64 (a - 1)) 8)) + 1)))
def YaM.enc (r : Int) : Res := ⟨[.vals false [((.int .i64 r), true)]], []⟩
def YaM.ans (k : Nat) : List Arg -> Ans
 | [.v (.int .i64 a)] => ⟨YaM.f k a, YaM.enc⟩
 | _ => Ans.no
def YaM.F : Fn := ⟨110, YaM.ans, sd YaM.ans Tryz.func110 [] [] [] (fun k x => by unfold YaM.ans; split; (right; change _ = Option.map YaM.enc _; simp only [YaM.f.eq_2, mc, mb, ms, mn, -eq_self]; kernel_rfl); exact .inl rfl) (fun x => by unfold YaM.ans; split <;> rfl)⟩
def Ybe.f : Nat -> Bool -> (List Int) -> Int -> Option Bool
 | 0, _, _, _ => none
 | k + 1, c, b, a => cond (decide (a >= 0)) (cond (decide ((wrap64 (Int.tdiv a 8)) < ((b).length : Int))) (cond (decide ((0 : Int) <= (wrap64 (Int.tdiv a 8)))) (cond (decide ((wrap64 (Int.tdiv a 8)) < ((b).length : Int))) (cond (decide ((0 : Int) <= (Int.tmod a 8))) (some (decide ((Int.tmod (shrI .i64 (wrap64 ((rdI b (wrap64 (Int.tdiv a 8))))) (Int.tmod a 8)) 2) = 1))) (none)) (none)) (none)) (some false)) (some false)
def Ybe.enc (r : Bool) : Res := ⟨[.vals false [((.bool r), true)]], []⟩
def Ybe.ans (k : Nat) : List Arg -> Ans
 | [.v (.nums 5 .u8 c b), .v (.int .i64 a)] => ⟨Ybe.f k c b a, Ybe.enc⟩
 | _ => Ans.no
def Ybe.F : Fn := ⟨135, Ybe.ans, sd Ybe.ans Tryz.func135 [] [] [] (fun k x => by unfold Ybe.ans; split; (right; change _ = Option.map Ybe.enc _; simp only [Ybe.f.eq_2, mc, mb, ms, mn, -eq_self]; kernel_rfl); exact .inl rfl) (fun x => by unfold Ybe.ans; split <;> rfl)⟩
def XO.l0 : Nat -> Bool -> (List Int) -> (List Int) -> Int -> Option (Bool × List Int)
 | 0, _, _, _, _ => none
 | k + 1, d, b, c, a => cond (decide (a < (wrap64 ((8 : Int) * ((b).length : Int))))) ((Ybe.f k d b a).bind fun g => cond g (cond (decide ((c).length + 1 < 17592186044416)) (XO.l0 k d b (c ++ ([a] : List Int)) (wrap64 (a + 1))) (none)) (XO.l0 k d b c (wrap64 (a + 1)))) (some (false, c))
def XO.f : Nat -> Bool -> (List Int) -> Option (Bool × List Int)
 | 0, _, _ => none
 | k + 1, e, f => XO.l0 k e f ([] : List Int) 0
def XO.enc (r : Bool × List Int) : Res := ⟨[.vals false [((.nums 3 .i64 r.1 r.2), true)]], []⟩
def XO.ans (k : Nat) : List Arg -> Ans
 | [.v (.nums 5 .u8 e f)] => ⟨XO.f k e f, XO.enc⟩
 | _ => Ans.no
def XO.cuts : List (Nat × Keep) := [(58, ⟨[(0, some []), (3, none), (4, some [])], []⟩)]
noncomputable def XO.K0 : List Fr := framesAt [true, true, false, true, false] (bodyOf Tryz.f112 XO.cuts) []
def XO.N0 (d : Bool) (b : List Int) (c : List Int) (a : Int) : St := stOf 21 21 1 [(0, .val ⟨(.nums 5 .u8 d b), [], false, none⟩), (3, .val ⟨(.nums 3 .i64 false c), [.l 3 0], true, some (.l 3 0)⟩), (4, vi a)] []
theorem XO.r (e) (f) (k) : (∀ d b c a, rounds Tryz.prog (tb [Ybe.F]) (finish Tryz.prog [] Tryz.f112 [.v (.nums 5 .u8 e f)]) 100000 k XO.K0 (XO.N0 d b c a) = (XO.l0 k d b c a).map XO.enc) := by
 induction k with
 | zero => intros <;> rfl
 | succ k ih =>
  have i0 := ih
  intros <;> simp only [XO.l0.eq_2, mc, mb, ms, mn, <- i0, -eq_self] <;> kernel_rfl
def XO.F : Fn := ⟨112, XO.ans, sd XO.ans Tryz.func112 [Ybe.F] XO.cuts [] (fun k x => by unfold XO.ans; split; (right; rename_i e f; have i0 := XO.r e f k; change _ = Option.map XO.enc _; simp only [XO.f.eq_2, mc, mb, ms, mn, <- i0, -eq_self]; kernel_rfl); exact .inl rfl) (fun x => by unfold XO.ans; split <;> rfl)⟩
def Yby.f : Nat -> Bool -> (List Int) -> Int -> Option Bool
 | 0, _, _, _ => none
 | k + 1, d, c, b => (YaB.f k b).bind fun e => cond (!e) (some false) ((YaM.f k b).bind fun f => cond (!(decide (((c).length : Int) = f))) (some false) ((XO.f k d c).bind fun a => cond (decide (((a.2).length : Int) = 0)) (some true) (cond (decide ((0 : Int) <= (wrap64 (((a.2).length : Int) - 1)))) (cond (decide ((wrap64 (((a.2).length : Int) - 1)) < ((a.2).length : Int))) (some (decide ((rdI a.2 (wrap64 (((a.2).length : Int) - 1))) < b))) (none)) (none))))
def Yby.enc (r : Bool) : Res := ⟨[.vals false [((.bool r), true)]], []⟩
def Yby.ans (k : Nat) : List Arg -> Ans
 | [.v (.nums 5 .u8 d c), .v (.int .i64 b)] => ⟨Yby.f k d c b, Yby.enc⟩
 | _ => Ans.no
def Yby.F : Fn := ⟨111, Yby.ans, sd Yby.ans Tryz.func111 [YaB.F, YaM.F, XO.F] [] [] (fun k x => by unfold Yby.ans; split; (right; change _ = Option.map Yby.enc _; simp only [Yby.f.eq_2, mc, mb, ms, mn, -eq_self]; kernel_rfl); exact .inl rfl) (fun x => by unfold Yby.ans; split <;> rfl)⟩
def YaN.f : Nat -> Bool -> (List Int) -> Int -> Int -> Option (Bool × (List Int) × Int × Int)
 | 0, _, _, _, _ => none
 | k + 1, c, d, e, b => (YaB.f k b).bind fun f => cond (!f) (some (true, ([] : List Int), 0, 5)) ((YaM.f k b).bind fun g => (YaD.f k c d e g).bind fun a => cond (!(decide (a.2.2.2 = 0))) (some (true, ([] : List Int), 0, a.2.2.2)) ((Yby.f k a.1 a.2.1 b).bind fun h => cond (!h) (some (true, ([] : List Int), 0, 4)) (some (a.1, a.2.1, a.2.2.1, 0))))
def YaN.enc (r : Bool × (List Int) × Int × Int) : Res := ⟨[.vals false [((.nums 5 .u8 r.1 r.2.1), true)], .vals false [((.int .i64 r.2.2.1), true)], .vals false [((.int .i64 r.2.2.2), true)]], []⟩
def YaN.ans (k : Nat) : List Arg -> Ans
 | [.v (.nums 5 .u8 c d), .v (.int .i64 e), .v (.int .i64 b)] => ⟨YaN.f k c d e b, YaN.enc⟩
 | _ => Ans.no
def YaN.F : Fn := ⟨78, YaN.ans, sd YaN.ans Tryz.func78 [YaB.F, YaD.F, YaM.F, Yby.F] [] [] (fun k x => by unfold YaN.ans; split; (right; change _ = Option.map YaN.enc _; simp only [YaN.f.eq_2, mc, mb, ms, mn, -eq_self]; kernel_rfl); exact .inl rfl) (fun x => by unfold YaN.ans; split <;> rfl)⟩
def YaO.f : Nat -> Bool -> (List Int) -> Option Int
 | 0, _, _ => none
 | k + 1, a, b => (XO.f k a b).bind fun c => some ((c.2).length : Int)
def YaO.enc (r : Int) : Res := ⟨[.vals false [((.int .i64 r), true)]], []⟩
def YaO.ans (k : Nat) : List Arg -> Ans
 | [.v (.nums 5 .u8 a b)] => ⟨YaO.f k a b, YaO.enc⟩
 | _ => Ans.no
def YaO.F : Fn := ⟨79, YaO.ans, sd YaO.ans Tryz.func79 [XO.F] [] [] (fun k x => by unfold YaO.ans; split; (right; change _ = Option.map YaO.enc _; simp only [YaO.f.eq_2, mc, mb, ms, mn, -eq_self]; kernel_rfl); exact .inl rfl) (fun x => by unfold YaO.ans; split <;> rfl)⟩
mutual
def Xl.l0 : Nat -> Bool -> (List Int) -> Int -> Int -> Int -> Int -> Bool -> (List Int) -> Bool -> (List Int) -> Option (Int × Int × Bool × (List Int) × Bool × (List Int) × Bool × (List T) × Bool × (List Int) × Int × Int)
 | 0, _, _, _, _, _, _, _, _, _, _ => none
 | k + 1, d, e, f, g, h, i, j, l, a, b => (YaO.f k a b).bind fun c => Xl.l1 k c d e f g h i j l a b true ([] : List T)
def Xl.l1 : Nat -> Int -> Bool -> (List Int) -> Int -> Int -> Int -> Int -> Bool -> (List Int) -> Bool -> (List Int) -> Bool -> (List T) -> Option (Int × Int × Bool × (List Int) × Bool × (List Int) × Bool × (List T) × Bool × (List Int) × Int × Int)
 | 0, _, _, _, _, _, _, _, _, _, _, _, _, _ => none
 | k + 1, u, d, e, f, g, h, i, j, l, a, b, a0, n => cond (decide (u > 0)) ((Yaa.f k d e f g).bind fun c => cond (decide ((n).length + 1 < 5864062014805)) (Xl.l1 k (wrap64 (u - 1)) c.2.2.1 c.2.2.2.1 c.2.2.2.2.1 c.2.2.2.2.2 h i j l a b false (n ++ ([(.nums 5 .u8 c.1 c.2.1)] : List T))) (none)) (some (h, i, j, l, a, b, a0, n, d, e, f, g))
end
def Xl.f : Nat -> Bool -> (List Int) -> Int -> Int -> Int -> Int -> Int -> Int -> Int -> Option (Int × Int × Bool × (List Int) × Bool × (List Int) × Bool × (List T) × Bool × (List Int) × Int × Int)
 | 0, _, _, _, _, _, _, _, _, _ => none
 | k + 1, o, p, q, s, t, v, w, y, z => (Xr.f k o p q s).bind fun c => (Xr.f k c.2.1 c.2.2.1 c.2.2.2.1 c.2.2.2.2).bind fun a1 => (Yaa.f k a1.2.1 a1.2.2.1 a1.2.2.2.1 a1.2.2.2.2).bind fun m => cond (decide (m.2.2.2.2.2 = 0)) ((YaN.f k m.2.2.1 m.2.2.2.1 m.2.2.2.2.1 t).bind fun a2 => Xl.l0 k m.2.2.1 m.2.2.2.1 a2.2.2.1 a2.2.2.2 c.1 a1.1 m.1 m.2.1 a2.1 a2.2.1) (Xl.l0 k m.2.2.1 m.2.2.2.1 m.2.2.2.2.1 m.2.2.2.2.2 c.1 a1.1 m.1 m.2.1 true ([] : List Int))
def Xl.enc (r : Int × Int × Bool × (List Int) × Bool × (List Int) × Bool × (List T) × Bool × (List Int) × Int × Int) : Res := ⟨[.vals true [((.int .i64 r.1), true), ((.int .i64 r.2.1), true), ((.nums 5 .u8 r.2.2.1 r.2.2.2.1), true), ((.nums 5 .u8 r.2.2.2.2.1 r.2.2.2.2.2.1), true), ((.sl 24 r.2.2.2.2.2.2.1 r.2.2.2.2.2.2.2.1), true)]], [[((.nums 5 .u8 (e8 r).1 (e8 r).2.1), false), ((.int .i64 (e8 r).2.2.1), true), ((.int .i64 (e8 r).2.2.2), true)]]⟩
def Xl.ans (k : Nat) : List Arg -> Ans
 | [.box [((.nums 5 .u8 o p), false), ((.int .i64 q), false), ((.int .i64 s), false)], .v (.agg [(.int .i64 t), (.int .i64 v), (.int .i64 w), (.int .i64 y), (.int .i64 z)])] => ⟨Xl.f k o p q s t v w y z, Xl.enc⟩
 | _ => Ans.no
def Xl.cuts : List (Nat × Keep) := [(31, ⟨[(0, some []), (4, some []), (5, some [])], [(0, [some [], some [], some []]), (4, [some [], some [], none, none, none]), (5, [some [], some [], none, none, none])]⟩), (506, ⟨[(0, some []), (4, some []), (5, some []), (9, some [])], [(0, [some [], some [], some []]), (4, [some [], some [], none, none, none]), (5, [some [], some [], none, none, none])]⟩)]
noncomputable def Xl.K0 : List Fr := framesAt [true, true, true, true] (bodyOf Tryz.f50 Xl.cuts) []
def Xl.N0 (d : Bool) (e : List Int) (f : Int) (g : Int) (h : Int) (i : Int) (j : Bool) (l : List Int) (a : Bool) (b : List Int) : St := stOf 64 64 2 [(0, .bp 0 0), (4, .bp 4 0), (5, .bp 5 0)] [(0, .cells [⟨(.nums 5 .u8 d e), [], false, none⟩, V.s (.int .i64 f), V.s (.int .i64 g)]), (4, .cells [V.s (.int .i64 0), V.s (.int .i64 0), ⟨(.nums 5 .u8 true ([] : List Int)), [.l 4 3], true, some (.l 4 3)⟩, ⟨(.nums 5 .u8 true ([] : List Int)), [.l 4 4], true, some (.l 4 4)⟩, ⟨(.sl 24 true ([] : List T)), [.l 4 5], true, some (.l 4 5)⟩]), (5, .cells [V.s (.int .i64 h), V.s (.int .i64 i), ⟨(.nums 5 .u8 j l), [.l 5 3], true, some (.l 5 3)⟩, ⟨(.nums 5 .u8 a b), [.l 5 4], true, some (.l 5 4)⟩, ⟨(.sl 24 true ([] : List T)), [.l 5 5], true, some (.l 5 5)⟩])]
noncomputable def Xl.K1 : List Fr := framesAt [true, true, true, true, true, false, true, false] (bodyOf Tryz.f50 Xl.cuts) []
def Xl.N1 (u : Int) (d : Bool) (e : List Int) (f : Int) (g : Int) (h : Int) (i : Int) (j : Bool) (l : List Int) (a : Bool) (b : List Int) (a0 : Bool) (n : List T) : St := stOf 64 64 2 [(0, .bp 0 0), (4, .bp 4 0), (5, .bp 5 0), (9, vi u)] [(0, .cells [⟨(.nums 5 .u8 d e), [], false, none⟩, V.s (.int .i64 f), V.s (.int .i64 g)]), (4, .cells [V.s (.int .i64 0), V.s (.int .i64 0), ⟨(.nums 5 .u8 true ([] : List Int)), [.l 4 3], true, some (.l 4 3)⟩, ⟨(.nums 5 .u8 true ([] : List Int)), [.l 4 4], true, some (.l 4 4)⟩, ⟨(.sl 24 true ([] : List T)), [.l 4 5], true, some (.l 4 5)⟩]), (5, .cells [V.s (.int .i64 h), V.s (.int .i64 i), ⟨(.nums 5 .u8 j l), [.l 5 3], true, some (.l 5 3)⟩, ⟨(.nums 5 .u8 a b), [.l 5 4], true, some (.l 5 4)⟩, ⟨(.sl 24 a0 n), [.l 5 5], true, some (.l 5 5)⟩])]
set_option maxHeartbeats 0 in
set_option maxRecDepth 100000 in
theorem Xl.r (o) (p) (q) (s) (t) (v) (w) (y) (z) (k) : (∀ d e f g h i j l a b, rounds Tryz.prog (tb [Xr.F, Yaa.F, YaN.F, YaO.F]) (finish Tryz.prog [true, true, true, true, true, false, true, true] Tryz.f50 [.box [((.nums 5 .u8 o p), false), ((.int .i64 q), false), ((.int .i64 s), false)], .v (.agg [(.int .i64 t), (.int .i64 v), (.int .i64 w), (.int .i64 y), (.int .i64 z)])]) 100000 k Xl.K0 (Xl.N0 d e f g h i j l a b) = (Xl.l0 k d e f g h i j l a b).map Xl.enc) /\ (∀ u d e f g h i j l a b a0 n, rounds Tryz.prog (tb [Xr.F, Yaa.F, YaN.F, YaO.F]) (finish Tryz.prog [true, true, true, true, true, false, true, true] Tryz.f50 [.box [((.nums 5 .u8 o p), false), ((.int .i64 q), false), ((.int .i64 s), false)], .v (.agg [(.int .i64 t), (.int .i64 v), (.int .i64 w), (.int .i64 y), (.int .i64 z)])]) 100000 k Xl.K1 (Xl.N1 u d e f g h i j l a b a0 n) = (Xl.l1 k u d e f g h i j l a b a0 n).map Xl.enc) := by
 induction k with
 | zero => and_intros <;> intros <;> rfl
 | succ k ih =>
  have ⟨i0, i1⟩ := ih
  and_intros <;> intros <;> simp only [Xl.l0.eq_2, Xl.l1.eq_2, mc, mb, ms, mn, <- i0, <- i1, -eq_self] <;> kernel_rfl
set_option maxHeartbeats 0 in
set_option maxRecDepth 100000 in
def Xl.F : Fn := ⟨50, Xl.ans, sd Xl.ans Tryz.func50 [Xr.F, Yaa.F, YaN.F, YaO.F] Xl.cuts [true, true, true, true, true, false, true, true] (fun k x => by unfold Xl.ans; split; (right; rename_i o p q s t v w y z; have ⟨i0, i1⟩ := Xl.r o p q s t v w y z k; change _ = Option.map Xl.enc _; simp only [Xl.f.eq_2, mc, mb, ms, mn, <- i0, <- i1, -eq_self]; kernel_rfl); exact .inl rfl) (fun x => by unfold Xl.ans; split <;> rfl)⟩
def YaE.f : Nat -> Bool -> (List Int) -> Bool -> (List Int) -> Option Bool
 | 0, _, _, _, _ => none
 | k + 1, c, a, d, b => some (decide ((strOf a) = (strOf b)))
def YaE.enc (r : Bool) : Res := ⟨[.vals false [((.bool r), true)]], []⟩
def YaE.ans (k : Nat) : List Arg -> Ans
 | [.v (.nums 5 .u8 c a), .v (.nums 5 .u8 d b)] => ⟨YaE.f k c a d b, YaE.enc⟩
 | _ => Ans.no
def YaE.F : Fn := ⟨82, YaE.ans, sd YaE.ans Tryz.func82 [] [] [] (fun k x => by unfold YaE.ans; split; (right; change _ = Option.map YaE.enc _; simp only [YaE.f.eq_2, mc, mb, ms, mn, -eq_self]; kernel_rfl); exact .inl rfl) (fun x => by unfold YaE.ans; split <;> rfl)⟩
def Ybz.f : Nat -> Int -> Int -> Int -> Bool -> (List Int) -> Bool -> (List Int) -> Int -> Int -> Bool -> (List Int) -> Bool -> (List Int) -> Bool -> (List T) -> Option Bool
 | 0, _, _, _, _, _, _, _, _, _, _, _, _, _, _, _ => none
 | k + 1, a, b, i, c, d, j, l, e, f, g, h, m, n, o, p => cond (decide (e < a)) (cond (decide (f = (wrap64 (b - 1)))) ((YaE.f k g h c d).bind fun q => some q) (some false)) (some false)
def Ybz.enc (r : Bool) : Res := ⟨[.vals false [((.bool r), true)]], []⟩
def Ybz.ans (k : Nat) : List Arg -> Ans
 | [.v (.agg [(.int .i64 a), (.int .i64 b), (.int .i64 i), (.nums 5 .u8 c d), (.nums 5 .u8 j l), (.int .i64 e), (.int .i64 f), (.nums 5 .u8 g h), (.nums 5 .u8 m n), (.sl 24 o p)])] => ⟨Ybz.f k a b i c d j l e f g h m n o p, Ybz.enc⟩
 | _ => Ans.no
def Ybz.F : Fn := ⟨80, Ybz.ans, sd Ybz.ans Tryz.func80 [YaE.F] [] [] (fun k x => by unfold Ybz.ans; split; (right; change _ = Option.map Ybz.enc _; simp only [Ybz.f.eq_2, mc, mb, ms, mn, -eq_self]; kernel_rfl); exact .inl rfl) (fun x => by unfold Ybz.ans; split <;> rfl)⟩
def Yap.f : Nat -> Bool -> (List Int) -> Int -> Int -> Int -> Int -> Int -> Int -> Int -> Option (Int × Int × Int × Bool × (List Int) × Bool × (List Int) × Int × Int × Bool × (List Int) × Bool × (List Int) × Bool × (List T) × Bool × (List Int) × Int × Int)
 | 0, _, _, _, _, _, _, _, _, _ => none
 | k + 1, l, m, n, o, g, p, q, s, t => (Xr.f k l m n o).bind fun f => (Xr.f k f.2.1 f.2.2.1 f.2.2.2.1 f.2.2.2.2).bind fun d => (Xt.f k d.2.1 d.2.2.1 d.2.2.2.1 d.2.2.2.2 (decide (d.1 = 0)) 5).bind fun h => (Xr.f k h.1 h.2.1 h.2.2.1 h.2.2.2).bind fun e => (Xt.f k e.2.1 e.2.2.1 e.2.2.2.1 e.2.2.2.2 (decide (e.1 >= g)) 5).bind fun i => (Yaa.f k i.1 i.2.1 i.2.2.1 i.2.2.2).bind fun b => (Yaa.f k b.2.2.1 b.2.2.2.1 b.2.2.2.2.1 b.2.2.2.2.2).bind fun c => (Xl.f k c.2.2.1 c.2.2.2.1 c.2.2.2.2.1 c.2.2.2.2.2 g p q s t).bind fun a => (Ybz.f k f.1 d.1 e.1 b.1 b.2.1 c.1 c.2.1 a.1 a.2.1 a.2.2.1 a.2.2.2.1 a.2.2.2.2.1 a.2.2.2.2.2.1 a.2.2.2.2.2.2.1 a.2.2.2.2.2.2.2.1).bind fun u => (Xt.f k a.2.2.2.2.2.2.2.2.1 a.2.2.2.2.2.2.2.2.2.1 a.2.2.2.2.2.2.2.2.2.2.1 a.2.2.2.2.2.2.2.2.2.2.2 (!u) 6).bind fun j => some (f.1, d.1, e.1, b.1, b.2.1, c.1, c.2.1, a.1, a.2.1, a.2.2.1, a.2.2.2.1, a.2.2.2.2.1, a.2.2.2.2.2.1, a.2.2.2.2.2.2.1, a.2.2.2.2.2.2.2.1, j.1, j.2.1, j.2.2.1, j.2.2.2)
def Yap.enc (r : Int × Int × Int × Bool × (List Int) × Bool × (List Int) × Int × Int × Bool × (List Int) × Bool × (List Int) × Bool × (List T) × Bool × (List Int) × Int × Int) : Res := ⟨[.vals true [((.int .i64 r.1), true), ((.int .i64 r.2.1), true), ((.int .i64 r.2.2.1), true), ((.nums 5 .u8 r.2.2.2.1 r.2.2.2.2.1), true), ((.nums 5 .u8 r.2.2.2.2.2.1 r.2.2.2.2.2.2.1), true), ((.int .i64 r.2.2.2.2.2.2.2.1), true), ((.int .i64 (e8 r).1), true), ((.nums 5 .u8 (e8 r).2.1 (e8 r).2.2.1), true), ((.nums 5 .u8 (e8 r).2.2.2.1 (e8 r).2.2.2.2.1), true), ((.sl 24 (e8 r).2.2.2.2.2.1 (e8 r).2.2.2.2.2.2.1), true)]], [[((.nums 5 .u8 (e8 r).2.2.2.2.2.2.2.1 (e8 (e8 r)).1), false), ((.int .i64 (e8 (e8 r)).2.1), true), ((.int .i64 (e8 (e8 r)).2.2), true)]]⟩
def Yap.ans (k : Nat) : List Arg -> Ans
 | [.box [((.nums 5 .u8 l m), false), ((.int .i64 n), false), ((.int .i64 o), false)], .v (.agg [(.int .i64 g), (.int .i64 p), (.int .i64 q), (.int .i64 s), (.int .i64 t)])] => ⟨Yap.f k l m n o g p q s t, Yap.enc⟩
 | _ => Ans.no
def Yap.F : Fn := ⟨51, Yap.ans, sd Yap.ans Tryz.func51 [Xr.F, Yaa.F, Xt.F, Xl.F, Ybz.F] [] [true, true, true, true, true, true, true, true, true, true, false, true, true] (fun k x => by unfold Yap.ans; split; (right; change _ = Option.map Yap.enc _; simp only [Yap.f.eq_2, mc, mb, ms, mn, -eq_self]; kernel_rfl); exact .inl rfl) (fun x => by unfold Yap.ans; split <;> rfl)⟩
def YbA.f : Nat -> Bool -> (List Int) -> Int -> Int -> Option (Bool × (List Int) × Int × Int)
 | 0, _, _, _, _ => none
 | k + 1, b, c, e, f => (Xq.f k b c e).bind fun a => cond (!(decide (a.2.2 = 0))) (some (true, ([] : List Int), 0, a.2.2)) (cond (decide (a.1 > f)) (some (true, ([] : List Int), 0, 3)) ((YaD.f k b c a.2.1 a.1).bind fun d => some (d.1, d.2.1, d.2.2.1, d.2.2.2)))
def YbA.enc (r : Bool × (List Int) × Int × Int) : Res := ⟨[.vals false [((.nums 5 .u8 r.1 r.2.1), true)], .vals false [((.int .i64 r.2.2.1), true)], .vals false [((.int .i64 r.2.2.2), true)]], []⟩
def YbA.ans (k : Nat) : List Arg -> Ans
 | [.v (.nums 5 .u8 b c), .v (.int .i64 e), .v (.int .i64 f)] => ⟨YbA.f k b c e f, YbA.enc⟩
 | _ => Ans.no
def YbA.F : Fn := ⟨113, YbA.ans, sd YbA.ans Tryz.func113 [Xq.F, YaD.F] [] [] (fun k x => by unfold YbA.ans; split; (right; change _ = Option.map YbA.enc _; simp only [YbA.f.eq_2, mc, mb, ms, mn, -eq_self]; kernel_rfl); exact .inl rfl) (fun x => by unfold YbA.ans; split <;> rfl)⟩
def Yaw.f : Nat -> Bool -> (List Int) -> Int -> Int -> Int -> Option (Bool × (List Int) × Bool × (List Int) × Int × Int)
 | 0, _, _, _, _, _ => none
 | k + 1, a, b, c, d, f => cond (!(decide (d = 0))) (some (true, ([] : List Int), a, b, c, d)) ((YbA.f k a b c f).bind fun e => some (e.1, e.2.1, a, b, e.2.2.1, e.2.2.2))
def Yaw.enc (r : Bool × (List Int) × Bool × (List Int) × Int × Int) : Res := ⟨[.vals false [((.nums 5 .u8 r.1 r.2.1), true)]], [[((.nums 5 .u8 r.2.2.1 r.2.2.2.1), false), ((.int .i64 r.2.2.2.2.1), true), ((.int .i64 r.2.2.2.2.2), true)]]⟩
def Yaw.ans (k : Nat) : List Arg -> Ans
 | [.box [((.nums 5 .u8 a b), false), ((.int .i64 c), false), ((.int .i64 d), false)], .v (.int .i64 f)] => ⟨Yaw.f k a b c d f, Yaw.enc⟩
 | _ => Ans.no
def Yaw.F : Fn := ⟨81, Yaw.ans, sd Yaw.ans Tryz.func81 [YbA.F] [] [true, false, true, true] (fun k x => by unfold Yaw.ans; split; (right; change _ = Option.map Yaw.enc _; simp only [Yaw.f.eq_2, mc, mb, ms, mn, -eq_self]; kernel_rfl); exact .inl rfl) (fun x => by unfold Yaw.ans; split <;> rfl)⟩
def YaP.f : Nat -> Option (Bool × List Int)
 | 0 => none
 | k + 1 => some (false, ([1779033703, 3144134277, 1013904242, 2773480762, 1359893119, 2600822924, 528734635, 1541459225] : List Int))
def YaP.enc (r : Bool × List Int) : Res := ⟨[.vals false [((.nums 3 .i64 r.1 r.2), true)]], []⟩
def YaP.ans (k : Nat) : List Arg -> Ans
 | [] => ⟨YaP.f k, YaP.enc⟩
 | _ => Ans.no
def YaP.F : Fn := ⟨136, YaP.ans, sd YaP.ans Tryz.func136 [] [] [] (fun k x => by unfold YaP.ans; split; (right; change _ = Option.map YaP.enc _; simp only [YaP.f.eq_2, mc, mb, ms, mn, -eq_self]; kernel_rfl); exact .inl rfl) (fun x => by unfold YaP.ans; split <;> rfl)⟩
mutual
def Xu.l0 : Nat -> Bool -> (List Int) -> (List Int) -> Option (Bool × List Int)
 | 0, _, _, _ => none
 | k + 1, g, e, a => cond (!(decide ((Int.tmod ((a).length : Int) 64) = 56))) (cond (decide ((a).length + 1 < 140737488355328)) (Xu.l0 k g e (a ++ ([0] : List Int))) (none)) (Xu.l1 k a (wrap64 ((8 : Int) * ((e).length : Int))) 7)
def Xu.l1 : Nat -> (List Int) -> Int -> Int -> Option (Bool × List Int)
 | 0, _, _, _ => none
 | k + 1, a, f, b => cond (decide (b >= 0)) (cond (decide ((0 : Int) <= (wrap64 ((8 : Int) * b)))) (cond (decide ((a).length + 1 < 140737488355328)) (Xu.l1 k (a ++ ([(((shrI .i64 f (wrap64 ((8 : Int) * b)))) % 256)] : List Int)) f (wrap64 (b - 1))) (none)) (none)) (some (false, a))
end
def Xu.f : Nat -> Bool -> (List Int) -> Option (Bool × List Int)
 | 0, _, _ => none
 | k + 1, c, d => (YaC.f k c d).bind fun h => cond (decide ((h.2).length + 1 < 140737488355328)) (Xu.l0 k c d (h.2 ++ ([128] : List Int))) (none)
def Xu.enc (r : Bool × List Int) : Res := ⟨[.vals false [((.nums 5 .u8 r.1 r.2), true)]], []⟩
def Xu.ans (k : Nat) : List Arg -> Ans
 | [.v (.nums 5 .u8 c d)] => ⟨Xu.f k c d, Xu.enc⟩
 | _ => Ans.no
def Xu.cuts : List (Nat × Keep) := [(28, ⟨[(0, some []), (3, none)], []⟩), (250, ⟨[(3, none), (4, some []), (5, some [])], []⟩)]
noncomputable def Xu.K0 : List Fr := framesAt [true, true, false, false] (bodyOf Tryz.f137 Xu.cuts) []
def Xu.N0 (g : Bool) (e : List Int) (a : List Int) : St := stOf 33 33 1 [(0, .val ⟨(.nums 5 .u8 g e), [], false, none⟩), (3, .val ⟨(.nums 5 .u8 false a), [.l 3 0], true, some (.l 3 0)⟩)] []
noncomputable def Xu.K1 : List Fr := framesAt [true, true, true, true, false, true, false] (bodyOf Tryz.f137 Xu.cuts) []
def Xu.N1 (a : List Int) (f : Int) (b : Int) : St := stOf 33 33 1 [(3, .val ⟨(.nums 5 .u8 false a), [.l 3 0], true, some (.l 3 0)⟩), (4, vi f), (5, vi b)] []
theorem Xu.r (c) (d) (k) : (∀ g e a, rounds Tryz.prog (tb [YaC.F]) (finish Tryz.prog [] Tryz.f137 [.v (.nums 5 .u8 c d)]) 100000 k Xu.K0 (Xu.N0 g e a) = (Xu.l0 k g e a).map Xu.enc) /\ (∀ a f b, rounds Tryz.prog (tb [YaC.F]) (finish Tryz.prog [] Tryz.f137 [.v (.nums 5 .u8 c d)]) 100000 k Xu.K1 (Xu.N1 a f b) = (Xu.l1 k a f b).map Xu.enc) := by
 induction k with
 | zero => and_intros <;> intros <;> rfl
 | succ k ih =>
  have ⟨i0, i1⟩ := ih
  and_intros <;> intros <;> simp only [Xu.l0.eq_2, Xu.l1.eq_2, mc, mb, ms, mn, <- i0, <- i1, -eq_self] <;> kernel_rfl
def Xu.F : Fn := ⟨137, Xu.ans, sd Xu.ans Tryz.func137 [YaC.F] Xu.cuts [] (fun k x => by unfold Xu.ans; split; (right; rename_i c d; have ⟨i0, i1⟩ := Xu.r c d k; change _ = Option.map Xu.enc _; simp only [Xu.f.eq_2, mc, mb, ms, mn, <- i0, <- i1, -eq_self]; kernel_rfl); exact .inl rfl) (fun x => by unfold Xu.ans; split <;> rfl)⟩
def Ybf.f : Nat -> Int -> Option Bool
 | 0, _ => none
 | k + 1, a => (XI.f k a 0 4294967295).bind fun b => some b
def Ybf.enc (r : Bool) : Res := ⟨[.vals false [((.bool r), true)]], []⟩
def Ybf.ans (k : Nat) : List Arg -> Ans
 | [.v (.int .i64 a)] => ⟨Ybf.f k a, Ybf.enc⟩
 | _ => Ans.no
def Ybf.F : Fn := ⟨149, Ybf.ans, sd Ybf.ans Tryz.func149 [XI.F] [] [] (fun k x => by unfold Ybf.ans; split; (right; change _ = Option.map Ybf.enc _; simp only [Ybf.f.eq_2, mc, mb, ms, mn, -eq_self]; kernel_rfl); exact .inl rfl) (fun x => by unfold Ybf.ans; split <;> rfl)⟩
def Yan.f : Nat -> Int -> Int -> Option Int
 | 0, _, _ => none
 | k + 1, b, a => cond (decide ((0 : Int) <= a)) (cond (decide ((0 : Int) <= (wrap64 ((32 : Int) - a)))) (some (Go.bits .and .i64 (Go.bits .or .i64 (shrI .i64 b a) (shlI .i64 b (wrap64 ((32 : Int) - a)))) 4294967295)) (none)) (none)
def Yan.enc (r : Int) : Res := ⟨[.vals false [((.int .i64 r), true)]], []⟩
def Yan.ans (k : Nat) : List Arg -> Ans
 | [.v (.int .i64 b), .v (.int .i64 a)] => ⟨Yan.f k b a, Yan.enc⟩
 | _ => Ans.no
def Yan.F : Fn := ⟨150, Yan.ans, sd Yan.ans Tryz.func150 [] [] [] (fun k x => by unfold Yan.ans; split; (right; change _ = Option.map Yan.enc _; simp only [Yan.f.eq_2, mc, mb, ms, mn, -eq_self]; kernel_rfl); exact .inl rfl) (fun x => by unfold Yan.ans; split <;> rfl)⟩
def Ybg.f : Nat -> Option (Bool × List Int)
 | 0 => none
 | k + 1 => some (false, ([1116352408, 1899447441, 3049323471, 3921009573, 961987163, 1508970993, 2453635748, 2870763221, 3624381080, 310598401, 607225278, 1426881987, 1925078388, 2162078206, 2614888103, 3248222580, 3835390401, 4022224774, 264347078, 604807628, 770255983, 1249150122, 1555081692, 1996064986, 2554220882, 2821834349, 2952996808, 3210313671, 3336571891, 3584528711, 113926993, 338241895, 666307205, 773529912, 1294757372, 1396182291, 1695183700, 1986661051, 2177026350, 2456956037, 2730485921, 2820302411, 3259730800, 3345764771, 3516065817, 3600352804, 4094571909, 275423344, 430227734, 506948616, 659060556, 883997877, 958139571, 1322822218, 1537002063, 1747873779, 1955562222, 2024104815, 2227730452, 2361852424, 2428436474, 2756734187, 3204031479, 3329325298] : List Int))
def Ybg.enc (r : Bool × List Int) : Res := ⟨[.vals false [((.nums 3 .i64 r.1 r.2), true)]], []⟩
def Ybg.ans (k : Nat) : List Arg -> Ans
 | [] => ⟨Ybg.f k, Ybg.enc⟩
 | _ => Ans.no
def Ybg.F : Fn := ⟨151, Ybg.ans, sd Ybg.ans Tryz.func151 [] [] [] (fun k x => by unfold Ybg.ans; split; (right; change _ = Option.map Ybg.enc _; simp only [Ybg.f.eq_2, mc, mb, ms, mn, -eq_self]; kernel_rfl); exact .inl rfl) (fun x => by unfold Ybg.ans; split <;> rfl)⟩
end Go.Proofs.YthocpcfjfgnkgaaGreatG
