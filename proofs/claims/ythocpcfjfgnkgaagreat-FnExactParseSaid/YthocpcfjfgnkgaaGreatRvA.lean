/- The machine of values, part 1: what a function computes over whole values, and that the Go machine comes to it. No condition. -/
import Derived.WalkKit
import Derived.WalkSpells
import Derived.Laws.StructEq
import Derived.ChangeMaps3
namespace Go.Proofs.YthocpcfjfgnkgaaGreatRv
open Go
set_option linter.unusedVariables false
inductive T where
 | int (k : IntKind) (n : Int)
 | bool (b : Bool)
 | str (s : ByteArray)
 | nums (e : TypeId) (k : IntKind) (z : Bool) (l : List Int)
 | sl (e : TypeId) (z : Bool) (l : List T)
 | agg (l : List T)
 | ptr (l : List T)
 | fn (f : FuncId) (caps : List T)
 | nf
 | ni
 | bad
def hi0 : Nat := 0
def hi1 : Nat := hi0
def hi2 : Nat := hi1
def hi3 : Nat := hi2
def hi4 : Nat := hi3
def hi5 : Nat := hi4
def hi6 : Nat := hi5
def hi7 : Nat := hi6
def hi8 : Nat := hi7
def hi9 : Nat := hi8
def hi10 : Nat := hi9
def hi11 : Nat := hi10
def hi12 : Nat := hi11
def hi13 : Nat := hi12
def hi14 : Nat := hi13
def hi15 : Nat := hi14
def hi16 : Nat := hi15
def hi17 : Nat := hi16
def hi18 : Nat := hi17
def hi19 : Nat := hi18
def hi20 : Nat := hi19
def hi21 : Nat := hi20
def hi22 : Nat := hi21
def hi23 : Nat := hi22
def hi24 : Nat := hi23
namespace T
def toInt : T -> Int | .int _ n => n | _ => (hi24 : Int)
def toBool : T -> Bool | .bool b => b | _ => Nat.beq hi24 1
def toStr : T -> ByteArray | .str s => s | _ => match hi24 with | _ => ByteArray.empty
def toNums : T -> List Int | .nums _ _ _ l => l | _ => List.replicate hi24 0
def toList : T -> List T | .sl _ _ l => l | _ => List.replicate hi24 .bad
def isNil : T -> Bool | .nums _ _ z _ => z | .sl _ z _ => z | _ => Nat.beq hi24 1
def cells : T -> List T | .agg l => l | t => [t]
def isBad : T -> Bool | .bad => true | _ => false
def one : T -> Bool | .agg _ => false | .bad => false | .ptr _ => false | _ => true
def scalar : T -> Bool | .int .. => true | .bool _ => true | .str _ => true | .nf => true | .ni => true | _ => false
end T
inductive Id where
 | n (d j : Nat)
 | l (d j : Nat)
 | b (d : Nat)
 | h (j : Nat)
 deriving DecidableEq
structure V where
 t : T
 g : List Id
 sep : Bool
 own : Option Id
inductive TV where
 | undef
 | val (x : V)
 | agg (l : List V)
 | tup (l : List (Bool × List V))
 | bp (d off : Nat)
 | ep (x : V) (i : Int) (off : Nat)
 | ap (d m : Nat) (i : Int)
 | as (d m : Nat)
 | pp (x : V) (off : Nat)
 | pt (y x : V) (i : Int) (off : Nat)
inductive Box where
 | cells (l : List V)
 | arr (k : IntKind) (m : Nat) (l : List Int)
structure St where
 tmps : List TV
 boxes : List (Option Box)
 np : Nat
inductive Arg where
 | v (t : T)
 | box (l : List (T × Bool))
 | own (t : T)
inductive Ret where
 | vals (isAgg : Bool) (l : List (T × Bool))
 | box (l : List (T × Bool))
structure Res where
 rets : List Ret
 outs : List (List (T × Bool))
structure Ans where
 {A : Type}
 o : Option A
 enc : A -> Res
def Ans.val (x : Ans) : Option Res := x.o.map x.enc
abbrev CallSem := FuncId -> List Arg -> Ans
inductive Tr (α : Type) where
 | ret (a : α)
 | no
 | ite (c : Bool) (a b : Tr α)
 | call (f : FuncId) (args : List Arg) (k : Res -> Tr α)
namespace Tr
def go {α R : Type} (C : CallSem) : Tr α -> (α -> Option R) -> Option R
 | .ret a, K => K a
 | .no, _ => none
 | .ite c a b, K => cond c (a.go C K) (b.go C K)
 | .call f args k, K => (C f args).o.bind fun a => (k ((C f args).enc a)).go C K
def bind {α β : Type} : Tr α -> (α -> Tr β) -> Tr β
 | .ret a, f => f a
 | .no, _ => .no
 | .ite c a b, f => .ite c (a.bind f) (b.bind f)
 | .call g args k, f => .call g args fun r => (k r).bind f
def must {α : Type} (c : Bool) (a : Tr α) : Tr α := .ite c a .no
def chk {α : Type} (c : Bool) (a : Tr α) : Tr α := match c with | true => a | false => .no
end Tr
section
variable (P : Program)
def isAgg (t : TypeId) : Bool := match P.underlying t with | some (.struct _) => true | some (.array _ _) => true | _ => false
def szOf (t : TypeId) : Nat := ((P.info? t).map (·.size)).getD 0
def bytesOf (t : TypeId) : Nat := ((P.info? t).map (·.bytes)).getD 0
def intOf? (t : TypeId) : Option IntKind := match P.underlying t with | some (.int k) => some k | _ => none
def cellTys : Nat -> TypeId -> List TypeId
 | 0, t => [t]
 | n + 1, t => match P.underlying t with
  | some (.struct fs) => fs.toList.flatMap fun f => cellTys n f.type
  | some (.array m e) => (List.replicate m (cellTys n e)).flatten
  | _ => [t]
def depth : Nat := 12
def okTy (t : TypeId) : Bool := (P.underlying t).isSome && szOf P t == (cellTys P depth t).length && szOf P t != 0
def nilT (t : TypeId) : T := match P.underlying t with
 | some (.slice e) => (match intOf? P e with | some k => .nums e k true [] | none => .sl e true [])
 | _ => .bad
def exp1 (t : TypeId) (x : T) : T := match P.underlying t with
 | some (.int k) => .int k x.toInt
 | some .bool => .bool x.toBool
 | some .string => .str x.toStr
 | some (.slice e) => (match intOf? P e with | some k => .nums e k x.isNil x.toNums | none => .sl e x.isNil x.toList)
 | some (.func ..) => x
 | some (.interface ..) => x
 | _ => .bad
def ok1 (t : TypeId) (x : T) : Bool := match P.underlying t, x with
 | some (.int k), .int k' _ => k == k'
 | some .bool, .bool _ => true
 | some .string, .str _ => true
 | some (.slice e), .nums e' k _ _ => e == e' && intOf? P e == some k
 | some (.slice e), .sl e' _ _ => e == e' && (intOf? P e).isNone
 | some (.func ..), .fn _ _ => true
 | some (.func ..), .nf => true
 | some (.interface ..), .ni => true
 | _, _ => false
def oks : List TypeId -> List T -> Bool
 | [], [] => true
 | t :: ts, x :: xs => ok1 P t x && oks ts xs
 | _, _ => false
def okT (t : TypeId) (x : T) : Bool := match isAgg P t with
 | true => (match x with | .agg l => oks P (cellTys P depth t) l | _ => false)
 | false => ok1 P t x
def V.s (t : T) : V := ⟨t, [], true, none⟩
def V.bad : V := ⟨.bad, [], false, none⟩
def constTV (t : TypeId) : Value -> TV
 | .int k n => .val (V.s (.int k n))
 | .bool b => .val (V.s (.bool b))
 | .string s => .val (V.s (.str s))
 | .slice none 0 0 => .val (V.s (nilT P t))
 | .nilFunc => .val (V.s .nf)
 | .nilIface => .val (V.s .ni)
 | _ => .undef
def zeroCells (t : TypeId) : List Value := match P.info? t with
 | some i => (match i.zero with | some z => z.cells.toList | none => [])
 | none => []
def zeroV (t : TypeId) (v : Value) : V := match constTV P t v with | .val x => x | _ => V.bad
def zeros (t : TypeId) : List V := List.zipWith (zeroV P) (cellTys P depth t) (zeroCells P t)
def TV.plain : TV -> TV | .pt y _ _ _ => .val y | t => t
def St.tmp (S : St) (i : Nat) : TV := S.tmps.getD i .undef
def St.box (S : St) (d : Nat) : Option Box := (S.boxes.getD d none)
def ev (S : St) (t : TypeId) : Operand -> TV
 | .tmp i => (S.tmp i).plain
 | .const v => constTV P t v
 | .func f => .val ⟨.fn f [], [], false, none⟩
 | .global _ => .undef
def St.put (S : St) (d : Option Nat) (v : TV) : St := match d with | some i => { S with tmps := S.tmps.set i v } | none => S
def mapTV (f : V -> V) : TV -> TV
 | .val x => .val (f x)
 | .agg l => .agg (l.map f)
 | .tup l => .tup (l.map fun c => (c.1, c.2.map f))
 | .ep x i o => .ep (f x) i o
 | .pp x o => .pp (f x) o
 | .pt y _ _ _ => .val (f y)
 | t => t
def mapBox (f : V -> V) : Box -> Box
 | .cells l => .cells (l.map f)
 | b => b
def St.map (f : V -> V) (S : St) : St := ⟨S.tmps.map (mapTV f), S.boxes.map (·.map (mapBox f)), S.np⟩
def meets (a b : List Id) : Bool := a.any (b.contains ·)
def kill (ids : List Id) (x : V) : V := cond (meets x.g ids) V.bad x
def wr (k : IntKind) (n : Int) : Int := match k with | .i64 => RowKit.wrap64 n | .u8 => n % 256 | k => k.wrap n
def shlI (k : IntKind) (x y : Int) : Int := k.wrap (x * 2 ^ min y.toNat k.bits)
def shrI (k : IntKind) (x y : Int) : Int := x / 2 ^ min y.toNat k.bits
def rdI (l : List Int) (i : Int) : Int := l.getD i.toNat 0
def btI (s : ByteArray) (i : Int) : Int := if h : i.toNat < s.size then ((s[i.toNat]'h).toNat : Int) else 0
def strOf (l : List Int) : ByteArray := ⟨(l.map fun n => UInt8.ofNat n.toNat).toArray⟩
def mnI (a b : Int) : Int := if b < a then b else a
def mxI (a b : Int) : Int := if b > a then b else a
def room (bytes : Nat) : Nat := 140737488355328 / bytes
variable {α : Type}
def isBoolTy (t : TypeId) : Bool := match P.underlying t with | some .bool => true | _ => false
def isFaceTy (t : TypeId) : Bool := match P.underlying t with | some (.interface _) => true | _ => false
def isSliceTy (t : TypeId) : Bool := match P.underlying t with | some (.slice _) => true | _ => false
def binT (op : BinOp) (xt : TypeId) (x y : T) (K : T -> Tr α) : Tr α :=
 match op, x, y with
 | .shl, .int k a, .int _ b => .must (decide (0 <= b)) (K (.int k (shlI k a b)))
 | .shr, .int k a, .int _ b => .must (decide (0 <= b)) (K (.int k (shrI k a b)))
 | .add, .int k a, .int k' b => .chk (k == k') (K (.int k (wr k (a + b))))
 | .sub, .int k a, .int k' b => .chk (k == k') (K (.int k (wr k (a - b))))
 | .mul, .int k a, .int k' b => .chk (k == k') (K (.int k (wr k (a * b))))
 | .quo, .int k a, .int k' b => .chk (k == k') (.must (!decide (b = 0)) (K (.int k (wr k (a.tdiv b)))))
 | .rem, .int k a, .int k' b => .chk (k == k') (.must (!decide (b = 0)) (K (.int k (a.tmod b))))
 | .and, .int k a, .int k' b => .chk (k == k') (K (.int k (Go.bits .and k a b)))
 | .or, .int k a, .int k' b => .chk (k == k') (K (.int k (Go.bits .or k a b)))
 | .xor, .int k a, .int k' b => .chk (k == k') (K (.int k (Go.bits .xor k a b)))
 | .andNot, .int k a, .int k' b => .chk (k == k') (K (.int k (Go.bits .andNot k a b)))
 | .eql, .int k a, .int k' b => .chk (k == k') (K (.bool (decide (a = b))))
 | .neq, .int k a, .int k' b => .chk (k == k') (K (.bool (!decide (a = b))))
 | .lss, .int k a, .int k' b => .chk (k == k') (K (.bool (decide (a < b))))
 | .leq, .int k a, .int k' b => .chk (k == k') (K (.bool (decide (a <= b))))
 | .gtr, .int k a, .int k' b => .chk (k == k') (K (.bool (decide (a > b))))
 | .geq, .int k a, .int k' b => .chk (k == k') (K (.bool (decide (a >= b))))
 | .eql, .str a, .str b => K (.bool (decide (a = b)))
 | .neq, .str a, .str b => K (.bool (!decide (a = b)))
 | .add, .str a, .str b => .must (decide (a.size + b.size <= 140737488355328)) (K (.str (a ++ b)))
 | .eql, .bool a, .bool b => .chk (isBoolTy P xt) (K (.bool (a == b)))
 | .neq, .bool a, .bool b => .chk (isBoolTy P xt) (K (.bool (!(a == b))))
 | .eql, .nums _ _ z _, .nums _ _ true [] => .chk (isSliceTy P xt) (K (.bool z))
 | .neq, .nums _ _ z _, .nums _ _ true [] => .chk (isSliceTy P xt) (K (.bool (!z)))
 | .eql, .sl _ z _, .sl _ true [] => .chk (isSliceTy P xt) (K (.bool z))
 | .neq, .sl _ z _, .sl _ true [] => .chk (isSliceTy P xt) (K (.bool (!z)))
 | _, _, _ => .no
def isConst : Operand -> Bool | .const _ => true | _ => false
def nilT2 (op : BinOp) (xt : TypeId) (y : Operand) : Tr TV := match op with
 | .eql => .chk (isFaceTy P xt && isConst y) (.ret (.val (V.s (.bool true))))
 | .neq => .chk (isFaceTy P xt && isConst y) (.ret (.val (V.s (.bool false))))
 | _ => .no
def unT (op : UnOp) (x : T) : Tr T :=
 match op, x with
 | .not, .bool b => .ret (.bool (!b))
 | .neg, .int k n => .ret (.int k (wr k (0 - n)))
 | _, _ => .no
def convT (src dst : TypeId) (x : T) : Tr T :=
 match P.underlying dst, x with
 | some (.int k), .int _ n => .ret (.int k (wr k n))
 | some .string, .str s => .ret (.str s)
 | some .string, .nums _ k _ l => .chk (k == .u8 && (match P.underlying src with | some (.slice e) => intOf? P e == some .u8 | _ => false)) (.ret (.str (strOf l)))
 | _, _ => .no
def fieldOf (s : TypeId) (f : Nat) : Option (Nat × TypeId) :=
 match P.underlying s with
 | some (.struct fs) => (match fs[f]? with | some fd => cond (szOf P fd.type == 0) none (some (fd.offset, fd.type)) | none => none)
 | _ => none
def V.of (t : T) (g : List Id) : V := match t.scalar with | true => V.s t | false => ⟨t, g, false, none⟩
def cellsTV : TV -> Option (List V)
 | .val x => some [x]
 | .agg l => some l
 | _ => none
def expFrom (g : List Id) (j : Nat) (ys : List T) : List TypeId -> List V
 | [] => []
 | t :: ts => V.of (exp1 P t (ys.getD j .bad)) g :: expFrom g (j + 1) ys ts
def formTV (t : TypeId) (vs : List V) : Option TV := match isAgg P t with
 | true => some (.agg vs)
 | false => (match vs with | [v] => some (.val v) | _ => none)
def retTV : Option TV -> Tr TV
 | some v => .ret v
 | none => .no
def elemTV (x : V) (i : Int) (off : Nat) (t : TypeId) : Tr TV :=
  match x.t with
  | .nums e k _ l => .chk (off == 0 && szOf P e == 1 && intOf? P t == some k) (.ret (.val (V.s (.int k (rdI l i)))))
  | .sl e _ l =>
    let ts := cellTys P depth t
    .chk (((cellTys P depth e).drop off).take ts.length == ts && okTy P t)
      (let ys := (l.getD i.toNat .bad).cells
       let vs := expFrom P x.g off ys ts
       retTV (formTV P t vs))
  | _ => .no
def okCells (ts : List TypeId) (vs : List V) : Bool := oks P ts (vs.map (·.t))
def loadTV (S : St) (t : TypeId) : TV -> Tr TV
 | .bp d off =>
  match S.box d with
  | some (.cells l) =>
   let ts := cellTys P depth t
   let vs := (l.drop off).take ts.length
   .chk (vs.length == ts.length && okTy P t)
    (retTV (formTV P t vs))
  | _ => .no
 | .ap d m' i =>
  match S.box d with
  | some (.arr k m l) => .chk (intOf? P t == some k && m == m') (.ret (.val (V.s (.int k (rdI l i)))))
  | _ => .no
 | .ep x i off => elemTV P x i off t
 | .pp x off =>
  match x.t with
  | .ptr l =>
   let ts := cellTys P depth t
   let ys := (l.drop off).take ts.length
   .chk (oks P ts ys && okTy P t)
    (retTV (formTV P t (ys.map fun y => V.of y x.g)))
  | _ => .no
 | _ => .no
def lenT : T -> Option Nat
 | .nums _ _ _ l => some l.length
 | .sl _ _ l => some l.length
 | _ => none
def elOf : T -> Option TypeId
 | .nums e _ _ _ => some e
 | .sl e _ _ => some e
 | _ => none
def anyV (p : V -> Bool) : TV -> Bool
 | .val x => p x
 | .agg l => l.any p
 | .tup l => l.any fun c => c.2.any p
 | .ep x _ _ => p x
 | .pp x _ => p x
 | .pt y x _ _ => p y || p x
 | _ => false
def St.any (p : V -> Bool) (S : St) : Bool := S.tmps.any (anyV p) || S.boxes.any (fun b => match b with | some (.cells l) => l.any p | _ => false)
def St.has (S : St) (p : Id -> Bool) : Bool := S.any fun x => x.g.any p
def ofSite (d : Nat) : Id -> Bool | .n d' _ => d == d' | _ => false
def TV.at (d : Nat) : TV -> Bool
 | .bp d' _ => d == d'
 | .ap d' _ _ => d == d'
 | .as d' _ => d == d'
 | _ => false
def gs (l : List V) : List Id := l.flatMap (·.g)
def apart : List Id -> List V -> Bool
 | _, [] => true
 | u, x :: xs => x.sep && !meets x.g u && apart (x.g ++ u) xs
def lay (l : List V) (off : Nat) (vs : List V) : List V := l.take off ++ vs ++ l.drop (off + vs.length)
def buildCells (S : St) (place : Nat -> Option (Nat × TypeId)) (l : List V) : List (Nat × Operand) -> Option (List V)
 | [] => some l
 | (i, x) :: rest =>
  match place i with
  | none => none
  | some (off, t) =>
   match cellsTV (ev P S t x) with
   | none => none
   | some vs => match okTy P t && okCells P (cellTys P depth t) vs && decide (off + vs.length <= l.length) with
    | true => buildCells S place (lay l off vs) rest
    | false => none
def litElems (S : St) (e : TypeId) : List (Nat × Operand) -> Nat -> Option (List (List V))
 | [], _ => some []
 | (i, x) :: rest, n =>
  match i == n, cellsTV (ev P S e x) with
  | true, some vs => (match okCells P (cellTys P depth e) vs with
   | true => (match litElems S e rest (n + 1) with | some r => some (vs :: r) | none => none)
   | false => none)
  | _, _ => none
def elemT (e : TypeId) (vs : List V) : T := match isAgg P e with | true => .agg (vs.map (·.t)) | false => (match vs with | [v] => v.t | _ => .bad)
def owned (x : V) : Bool := x.own.isSome && x.sep && !x.t.scalar
def argOf (S : St) : TV -> Option (Arg × List Id)
 | .val x => (match x.t.isBad with | true => none | false => some (.v x.t, x.g))
 | .agg l => (match l.any (·.t.isBad) with | true => none | false => some (.v (.agg (l.map (·.t))), gs l))
 | .bp d 0 => (match S.box d with
  | some (.cells l) => (match l.any (·.t.isBad) with
   | true => none
   | false => some (.box (l.map fun x => (x.t, owned x)), gs (l.filter fun x => !owned x)))
  | _ => none)
 | _ => none
def argsOf (S : St) : List TypeId -> List Operand -> Option (List (Arg × List Id))
 | _, [] => some []
 | ts, x :: xs => match argOf S (ev P S (ts.headD 0) x) with
  | none => none
  | some a => match argsOf S ts.tail xs with | some r => some (a :: r) | none => none
def backV (d : Nat) (g : List Id) (j : Nat) : List (T × Bool) -> List V
 | [] => []
 | (t, own) :: rest => (match t.scalar with
  | true => V.s t
  | false => (match own with | true => ⟨t, [.n d j], true, some (.n d j)⟩ | false => ⟨t, g, false, none⟩)) :: backV d g (j + 1) rest
def backComps (d : Nat) (g : List Id) (j : Nat) : List Ret -> Option (List (Bool × List V))
 | [] => some []
 | .vals a l :: rest => (match backComps d g (j + l.length) rest with | some r => some ((a, backV d g j l) :: r) | none => none)
 | .box _ :: _ => none
def compTV : Bool × List V -> TV
 | (true, l) => .agg l
 | (false, [x]) => .val x
 | _ => .undef
def isStatic (f : FuncId) : Bool := match P.funcs[f]? with | some fn => fn.body.isSome && fn.name != "runtime.NumGoroutine" | none => false
def callTV (S : St) (d : Nat) (f : FuncId) (caps : List T) (cg : List Id) (ts : List TypeId) (xs : List Operand) : Tr TV :=
  .chk (isStatic P f)
    (match argsOf P S ts xs with
     | none => .no
     | some as =>
       .chk (as.all fun a => match a.1 with | .v _ => true | _ => false)
         (.call f (as.map (·.1) ++ caps.map .v) fun r =>
           match r.outs, backComps d (as.flatMap (·.2) ++ cg) 0 r.rets with
           | [], some [c] => .ret (compTV c)
           | [], some cs => .ret (.tup cs)
           | _, _ => .no))
def capsTr (S : St) : List Operand -> Option (List T × List Id)
 | [] => some ([], [])
 | x :: xs => match capsTr S xs, ev P S 0 x with
  | some (ts, g), .val v => (match v.t.isBad with | true => none | false => some (v.t :: ts, v.g ++ g))
  | some (ts, g), .bp d 0 => (match S.box d with
   | some (.cells l) => (match l.any (·.t.isBad) with | true => none | false => some (.ptr (l.map (·.t)) :: ts, .b d :: (gs l ++ g)))
   | _ => none)
  | some (ts, g), .pp v 0 => (match v.t.isBad with | true => none | false => some (v.t :: ts, v.g ++ g))
  | _, _ => none
def bndTr (S : St) (o : Option Operand) (z : Int) (K : Int -> Tr TV) : Tr TV := match o with
 | none => K z
 | some y => match ev P S 0 y with
  | .val b => (match b.t with | .int _ j => K j | _ => .no)
  | _ => .no
def cutTr (S : St) (lo hi : Option Operand) (n : Nat) (K : Nat -> Nat -> Tr TV) : Tr TV :=
 bndTr P S hi (n : Int) fun h => .must (decide (0 <= h)) (.must (decide (h <= (n : Int))) (bndTr P S lo 0 fun l => .must (decide (0 <= l)) (.must (decide (l <= h)) (K l.toNat h.toNat))))
def eqFs : Nat -> List Field -> List V -> List V -> Bool
 | _, [], [], [] => true
 | i, f :: fs, x :: xs, y :: ys => f.name != "_" && f.offset == i && (match P.underlying f.type, x.t, y.t with | some (.int k), .int k1 _, .int k2 _ => k1 == k && k2 == k | _, _, _ => false) && eqFs (i + 1) fs xs ys
 | _, _, _, _ => false
def eqVal : List V -> List V -> Bool
 | x :: xs, y :: ys => (match x.t, y.t with | .int _ a, .int _ b => decide (a = b) | _, _ => true) && eqVal xs ys
 | _, _ => true
def ptTV (tv : TV) (x : V) (i : Int) (off : Nat) : TV := match tv, x.t with
 | .val y, .sl _ _ _ => .pt y x i off
 | tv, _ => tv
def quiet (S : St) (o : Oper) : Tr TV :=
  match o.op with
  | .move x | .assign x => .ret (ev P S o.type x)
  | .pick c a b => match ev P S 0 c with
    | .val x => (match x.t with | .bool v => .ite v (.ret (ev P S o.type a)) (.ret (ev P S o.type b)) | _ => .no)
    | _ => .no
  | .binOp op xt x y yt => match ev P S xt x, ev P S xt y with
    | .val a, .val b => (match a.t, b.t with
      | .ni, .ni => nilT2 P op xt y
      | s, t => binT P op xt s t fun r => .ret (.val (V.s r)))
    | .agg l, .agg m => (match P.underlying xt with
      | some (.struct fs) => .chk (eqFs P 0 fs.toList l m && !P.stoodInHeld xt && !P.eqGuardType P.depth xt)
        (match op with
         | .eql => .ret (.val (V.s (.bool (eqVal l m))))
         | .neq => .ret (.val (V.s (.bool (!eqVal l m))))
         | _ => .no)
      | _ => .no)
    | _, _ => .no
  | .unOp op _ x => match ev P S 0 x with
    | .val a => (unT op a.t).bind fun r => .ret (.val (V.s r))
    | _ => .no
  | .convert s t x => match ev P S s x with
    | .val a => .chk (P.underlying s).isSome ((convT P s t a.t).bind fun r => .ret (.val (V.s r)))
    | _ => .no
  | .extract x i => match ev P S 0 x with
    | .tup l => (match l[i]? with | some c => .ret (compTV c) | none => .no)
    | _ => .no
  | .field xt x f => match ev P S xt x, fieldOf P xt f with
    | .agg l, some (off, t) =>
      let ts := cellTys P depth t
      let vs := (l.drop off).take ts.length
      .chk (vs.length == ts.length && okTy P t) (retTV (formTV P t vs))
    | _, _ => .no
  | .fieldAddr s x f => match ev P S 0 x, fieldOf P s f with
    | .bp d off, some (o, _) => .ret (.bp d (off + o))
    | .ep v i off, some (o, _) => .chk (!v.t.isBad) (.ret (.ep v i (off + o)))
    | .pp v off, some (o, _) => .chk (!v.t.isBad) (.ret (.pp v (off + o)))
    | _, _ => .no
  | .nilCheck x => match ev P S 0 x with
    | .bp d off => .ret (.bp d off)
    | .ep v i off => .chk (!v.t.isBad) (.ret (.ep v i off))
    | .pp v off => .chk (!v.t.isBad) (.ret (.pp v off))
    | _ => .no
  | .indexAddr t x i => match ev P S t x, ev P S 0 i with
    | .val a, .val b => (match P.underlying t, lenT a.t, b.t with
      | some (.slice e), some n, .int _ j => .chk (elOf a.t == some e && szOf P e != 0) (.must (decide (0 <= j)) (.must (decide (j < (n : Int))) (.ret (.ep a j 0))))
      | _, _, _ => .no)
    | .bp d 0, .val b => (match P.underlying t, S.box d, b.t with
      | some (.array m e), some (.arr _ m' _), .int _ j => .chk (szOf P e == 1 && decide (2 <= m) && m == m') (.must (decide (0 <= j)) (.must (decide (j < (m : Int))) (.ret (.ap d m j))))
      | _, _, _ => .no)
    | _, _ => .no
  | .index t x i => match ev P S t x, ev P S 0 i with
    | .val a, .val b => (match P.underlying t, a.t, b.t with
      | some .string, .str s, .int _ j => .must (decide (0 <= j)) (.must (decide (j < (s.size : Int))) (.ret (.val (V.s (.int .u8 (btI s j))))))
      | _, _, _ => .no)
    | _, _ => .no
  | .load t a => match ev P S 0 a with
    | .ep x i off => (match x.own.isSome && x.sep && isSliceTy P t with
      | true => (elemTV P x i off t).bind fun tv => .ret (ptTV tv x i off)
      | false => elemTV P x i off t)
    | p => loadTV P S t p
  | .slice t x lo hi none => match ev P S t x with
    | .val a =>
      (match P.underlying t, a.t with
       | some .string, .str s => cutTr P S lo hi s.size fun l h => .ret (.val (V.s (.str (s.extract l h))))
       | some (.slice e), .nums e' k z xs => .chk (e == e' && szOf P e == 1) (cutTr P S lo hi xs.length fun l h => .ret (.val ⟨.nums e' k z ((xs.take h).drop l), a.g, false, none⟩))
       | some (.slice e), .sl e' z xs => .chk (e == e' && szOf P e != 0) (cutTr P S lo hi xs.length fun l h => .ret (.val ⟨.sl e' z ((xs.take h).drop l), a.g, false, none⟩))
       | _, _ => .no)
    | .bp d 0 => (match P.underlying t, S.box d, lo, hi with
      | some (.array m e), some (.arr _ m' _), none, none => .chk (szOf P e == 1 && m == m') (.ret (.as d m))
      | _, _, _, _ => .no)
    | _ => .no
  | .build t parts => match P.underlying t with
    | some (.struct fs) => .chk ((fs.toList.all fun f => (P.info? f.type).isSome) && (zeros P t).length == (zeroCells P t).length && !(zeroCells P t).isEmpty)
      (match buildCells P S (fieldOf P t) (zeros P t) parts.toList with | some l => .ret (.agg l) | none => .no)
    | some (.array _ e) => .chk ((P.info? e).isSome && (zeros P t).length == (zeroCells P t).length && !(zeroCells P t).isEmpty)
      (match buildCells P S (fun i => some (i * szOf P e, e)) (zeros P t) parts.toList with | some l => .ret (.agg l) | none => .no)
    | _ => .no
  | .buildSlice t n parts => match P.underlying t, o.dst with
    | some (.slice e), some d => (match litElems P S e parts.toList 0 with
      | some vss => .chk (vss.length == n && okTy P e && decide (n * szOf P e <= 16777216) && (P.info? e).any (fun i => i.zero.isSome))
        (match intOf? P e with
         | some k => .chk (szOf P e == 1) (.ret (.val ⟨.nums e k false (vss.map fun vs => (elemT P e vs).toInt), [.n d 0], true, some (.n d 0)⟩))
         | none => .chk ((cellTys P depth e).length == szOf P e && !(gs vss.flatten).any (ofSite d)) (.ret (.val ⟨.sl e false (vss.map (elemT P e)), .n d 0 :: gs vss.flatten, apart [.n d 0] vss.flatten, some (.n d 0)⟩)))
      | none => .no)
    | _, _ => .no
  | .makeSlice t n c => match P.underlying t, o.dst, ev P S 0 n, ev P S 0 c with
    | some (.slice e), some d, .val a, .val b => (match a.t, b.t with
      | .int _ j, .int _ j' => .must (decide (j = j')) (.must (decide (0 <= j)) (.must (decide (j.toNat < room (bytesOf P e)))
        (.chk (okTy P e && bytesOf P e != 0 && (P.info? e).any (fun i => i.zero.isSome))
          (match intOf? P e with
           | some k => .chk (szOf P e == 1 && (match zeroCells P e with | [.int k' 0] => k' == k | _ => false)) (.ret (.val ⟨.nums e k false (List.replicate j.toNat 0), [.n d 0], true, some (.n d 0)⟩))
           | none => .chk (okCells P (cellTys P depth e) (zeros P e) && (zeros P e).length == (zeroCells P e).length && (zeros P e).all (·.sep)) (.ret (.val ⟨.sl e false (List.replicate j.toNat (elemT P e (zeros P e))), [.n d 0], true, some (.n d 0)⟩))))))
      | _, _ => .no)
    | _, _, _, _ => .no
  | .makeFunc (.func f) first caps => .chk first.isEmpty
      (match capsTr P S caps.toList with
       | some (ts, g) => .ret (.val ⟨.fn f ts, g, false, none⟩)
       | none => .no)
  | .call { callee := .builtin .len, args := args, argTypes := ts } => match args.toList with
    | [x] => .chk (decide (0 < ts.size)) (match ev P S (ts.getD 0 0) x with
      | .val a => (match P.underlying (ts.getD 0 0), a.t with
        | some .string, .str s => .ret (.val (V.s (.int .i64 (s.size : Int))))
        | some (.slice _), .nums _ _ _ l => .ret (.val (V.s (.int .i64 (l.length : Int))))
        | some (.slice _), .sl _ _ l => .ret (.val (V.s (.int .i64 (l.length : Int))))
        | _, _ => .no)
      | _ => .no)
    | _ => .no
  | .call { callee := .builtin .min, args := args, .. } => match args.toList with
    | [x, y] => (match ev P S 0 x, ev P S 0 y with
      | .val a, .val b => (match a.t, b.t with | .int k m, .int k' n => .chk (k == k') (.ret (.val (V.s (.int k (mnI m n))))) | _, _ => .no)
      | _, _ => .no)
    | _ => .no
  | .call { callee := .builtin .max, args := args, .. } => match args.toList with
    | [x, y] => (match ev P S 0 x, ev P S 0 y with
      | .val a, .val b => (match a.t, b.t with | .int k m, .int k' n => .chk (k == k') (.ret (.val (V.s (.int k (mxI m n))))) | _, _ => .no)
      | _, _ => .no)
    | _ => .no
  | .call { callee := .value f, args := args, argTypes := ts } => match ev P S 0 f with
    | .val x => (match x.t with | .fn g caps => callTV P S (o.dst.getD 0) g caps x.g ts.toList args.toList | _ => .no)
    | _ => .no
  | _ => .no
def setCells (x : T) (off : Nat) (ys : List T) : T := match x with
 | .agg l => .agg (l.take off ++ ys ++ l.drop (off + ys.length))
 | _ => ys.headD .bad
def intsOf : List V -> Option (List Int)
 | [] => some []
 | x :: xs => match x.t, intsOf xs with | .int _ n, some r => some (n :: r) | _, _ => none
def St.setBox (S : St) (d : Nat) (b : Option Box) : St := { S with boxes := S.boxes.set d b }
def rewrite (id : Id) (gone : List Id) (t : T) (g : List Id) (sep : Bool) (x : V) : V :=
 match x.own == some id && !x.t.isBad with
 | true => ⟨t, g, sep, some id⟩
 | false => kill (id :: gone) x
def St.write (S : St) (d : Nat) (b : Box) : St := (S.map (kill [.b d])).setBox d (some b)
def notB : Id -> Bool | .b _ => false | _ => true
def isH : Id -> Bool | .h _ => true | _ => false
def storeSt (S : St) (t : TypeId) (p : TV) (xs : List V) : Tr St :=
  match p with
  | .bp d off => (match S.box d with
    | some (.cells l) => .chk (decide (off + xs.length <= l.length) && okTy P t && okCells P (cellTys P depth t) xs && !meets (gs xs) [.b d])
      (.ret (S.write d (.cells (lay (l.map (kill [.b d])) off xs))))
    | some (.arr k m l) => (match P.underlying t, intsOf xs with
      | some (.array m' e), some ns => .chk (off == 0 && m == m' && ns.length == m && szOf P t == m && m != 0 && intOf? P e == some k && isAgg P t && xs.all (fun x => match x.t with | .int k' _ => k == k' | _ => false))
        (.ret (S.write d (.arr k m ns)))
      | _, _ => .no)
    | none => .no)
  | .ap d m' i => (match S.box d, xs with
    | some (.arr k m l), [x] => (match x.t with
      | .int k' n => .chk (k == k' && m == m' && szOf P t == 1 && !isAgg P t) (.ret (S.write d (.arr k m (l.set i.toNat n))))
      | _ => .no)
    | _, _ => .no)
  | .ep x i off => (match x.own, x.t with
    | some id, .nums e k z l => (match xs with
      | [y] => (match y.t with
        | .int k' n => .chk (k == k' && off == 0 && szOf P t == 1 && !isAgg P t && notB id) (.ret (S.map (rewrite id [] (.nums e k z (l.set i.toNat n)) x.g x.sep)))
        | _ => .no)
      | _ => .no)
    | some id, .sl e z l =>
      let ts := cellTys P depth t
      let gy := gs xs
      .chk (((cellTys P depth e).drop off).take ts.length == ts && okTy P t && okCells P ts xs && !meets gy [id] && notB id)
        (let full := match isAgg P e with | true => T.agg ((expFrom P [] 0 (l.getD i.toNat .bad).cells (cellTys P depth e)).map (·.t)) | false => .bad
         let t' := T.sl e z (l.set i.toNat (setCells full off (xs.map (·.t))))
         match x.sep && apart x.g xs with
         | true => .ret (S.map (rewrite id gy t' (x.g ++ gy) true))
         | false => .ret (S.map (rewrite id [] t' (x.g ++ gy) false)))
    | _, _ => .no)
  | _ => .no
def arrKind (t : TypeId) : Option (IntKind × Nat) := match P.underlying t with
 | some (.array m e) => (match intOf? P e with | some k => some (k, m) | none => none)
 | _ => none
def noPtr (S : St) (d : Nat) : Bool := decide (S.np <= d) && !S.tmps.any (TV.at d) && (match S.box d with | none => true | _ => false) && !S.has (fun i => match i with | .b d' => d == d' | _ => false)
def allocSt (S : St) (d : Nat) (t : TypeId) (init : Option (List V)) : Tr St :=
  .chk (noPtr S d && decide (d < S.boxes.length))
    (match arrKind P t, init with
     | some (k, m), none => .chk (m != 0 && (zeroCells P t).length == m && (zeroCells P t).all (fun v => match v with | .int k' 0 => k' == k | _ => false)) (.ret (({ S with tmps := S.tmps.set d (.bp d 0) }).setBox d (some (.arr k m (List.replicate m 0)))))
     | some _, some _ => .no
     | none, i =>
       let vs := i.getD (zeros P t)
       .chk (okCells P (cellTys P depth t) vs && !vs.isEmpty && (match i with | none => (zeros P t).length == (zeroCells P t).length && !(zeroCells P t).isEmpty | some _ => true)) (.ret (({ S with tmps := S.tmps.set d (.bp d 0) }).setBox d (some (.cells vs)))))
def unionId (a b : List Id) : List Id := a ++ b.filter fun i => !a.contains i
def isNilT : T -> Bool | .nums _ _ true [] => true | .sl _ true [] => true | _ => false
def appGo (S : St) (d : Nat) (e : TypeId) (id : Id) (a b : V) : Tr St :=
  match a.t, b.t with
  | .nums e1 k z l, .nums _ k' _ m => .chk (notB id && !isH id && e == e1 && k == k' && szOf P e == 1)
      (.must (decide (l.length + m.length < room (bytesOf P e)))
        (.ret ((S.map (kill [id])).put (some d) (.val ⟨.nums e k (m.isEmpty && z) (l ++ m), [id], true, some id⟩))))
  | .sl e1 z l, .sl e2 _ m => .chk (notB id && !isH id && e == e1 && e == e2 && !b.g.contains id && (cellTys P depth e).length == szOf P e)
      (.must (decide (l.length + m.length < room (bytesOf P e)))
        (match a.sep && b.sep && !meets a.g b.g && (a.g ++ b.g).all notB with
         | true => .ret ((S.map (kill (id :: (a.g ++ b.g)))).put (some d) (.val ⟨.sl e (m.isEmpty && z) (l ++ m), [id], true, some id⟩))
         | false => .ret ((S.map (kill [id])).put (some d) (.val ⟨.sl e (m.isEmpty && z) (l ++ m), unionId (id :: a.g.filter (· != id)) b.g, false, some id⟩))))
  | _, _ => .no
def appendSt (S : St) (d : Nat) (ts : List TypeId) (a b : V) : Tr St :=
  match ts with
  | [t, t'] => .chk (t == t') (match P.underlying t with
    | some (.slice e) => .chk (bytesOf P e != 0 && szOf P e != 0 && (zeroCells P e).length == szOf P e)
      (match a.own with
       | some id => appGo P S d e id a b
       | none => .chk (isNilT a.t && !S.has (ofSite d)) (appGo P S d e (.n d 0) a b))
    | _ => .no)
  | _ => .no
def byteSl (t : TypeId) : Bool := match P.underlying t with | some (.slice e) => szOf P e == 1 | _ => false
def copySt (S : St) (d : Option Nat) (t : TypeId) (dst : TV) (b : V) : Tr St :=
 match dst, b.t with
 | .as q n', .nums _ k' _ m => (match S.box q with
  | some (.arr k n l) => .chk (byteSl P t && k == k' && n == n') (.ret ((S.write q (.arr k n (m.take n ++ l.drop m.length))).put d (.val (V.s (.int .i64 (mnI (m.length : Int) (n : Int)))))))
  | _ => .no)
 | .val a, .nums _ k' _ m => (match a.own, a.t with
  | some id, .nums e k z l => .chk (byteSl P t && k == k' && notB id) (.must (!z) (.ret ((S.map (rewrite id [] (.nums e k z (m.take l.length ++ l.drop m.length)) a.g a.sep)).put d (.val (V.s (.int .i64 (mnI (m.length : Int) (l.length : Int))))))))
  | _, _ => .no)
 | _, _ => .no
def qsOf (S : St) : List Operand -> List Nat
 | [] => []
 | x :: xs => match ev P S 0 x with | .bp d 0 => d :: qsOf S xs | _ => qsOf S xs
def ownedOf (S : St) (qs : List Nat) : List V := qs.flatMap fun q => match S.box q with | some (.cells l) => l.filter owned | _ => []
def nodupN : List Nat -> Bool
 | [] => true
 | q :: qs => !qs.contains q && nodupN qs
def backBoxes (S : St) (d : Nat) (g : List Id) (j : Nat) : List Nat -> List (List (T × Bool)) -> Option St
 | [], [] => some S
 | q :: qs, o :: os => (match S.box q with
  | some (.cells l) => (match l.length == o.length with
   | true => backBoxes (S.setBox q (some (.cells (backV d g j o)))) d g (j + o.length) qs os
   | false => none)
  | _ => none)
 | _, _ => none
def retLen : List Ret -> Nat
 | [] => 0
 | .vals _ l :: r => l.length + retLen r
 | .box l :: r => l.length + retLen r
def callSt (S : St) (d : Nat) (dst : Option Nat) (f : FuncId) (caps : List T) (cg : List Id) (ts : List TypeId) (xs : List Operand) : Tr St :=
  .chk (isStatic P f && !S.has (ofSite d))
    (match argsOf P S ts xs with
     | none => .no
     | some as =>
       let qs := qsOf P S xs
       let g := as.flatMap (·.2) ++ cg
       let ow := ownedOf S qs
       .chk (nodupN qs && apart [] ow && (gs ow).all notB && !meets g (gs ow ++ qs.map .b))
         (.call f (as.map (·.1) ++ caps.map .v) fun r =>
           match r.rets with
           | [.box l] =>
             .chk (qs.isEmpty && r.outs.isEmpty && noPtr S d && decide (d < S.boxes.length) && dst == some d)
               (.ret (({ S with tmps := S.tmps.set d (.bp d 0) }).setBox d (some (.cells (backV d g 0 l)))))
           | rs =>
             match backComps d g 0 rs, backBoxes (S.map (kill (gs ow ++ qs.map .b))) d g (retLen rs) qs r.outs with
             | some [c], some S' => .ret (S'.put dst (compTV c))
             | some cs, some S' => .ret (S'.put dst (.tup cs))
             | _, _ => .no))
def storesIn (f : FuncId -> Bool) : Code -> Bool
 | .region _ ops _ => ops.any fun o => match o.op with
  | .store .. => true
  | .call { callee := .value (.func g), .. } => f g
  | _ => false
 | .seq a b => storesIn f a || storesIn f b
 | .cond _ a b => storesIn f a || storesIn f b
 | .block _ b => storesIn f b
 | .loop b => storesIn f b
 | _ => false
def ptrTy (t : TypeId) : Bool := match P.underlying t with | some (.pointer _) => true | _ => false
def asks : Code -> Bool
 | .region _ ops _ => ops.any fun o => match o.op with
  | .call { callee := .value _, argTypes := ts, .. } => ts.toList.any (ptrTy P)
  | _ => false
 | .seq a b => asks a || asks b
 | .cond _ a b => asks a || asks b
 | .block _ b => asks b
 | .loop b => asks b
 | _ => false
def isMark : Nat -> FuncId -> Bool
 | 0, _ => false
 | n + 1, f => match P.funcs[f]? with
  | some fn => fn.name == "slices.Sort[[]int,int]" || fn.name == "slices.Compact[[]int,int]" || (match fn.params.toList, fn.results.toList with
   | [t, u], [_] => (isSliceTy P t || isAgg P t) && (intOf? P u == some .i64) && (match fn.body with | some c => storesIn (isMark n) c && !asks P c | none => false)
   | _, _ => false)
  | none => false
def lentV (x : V) : Bool := x.t.scalar || owned x
def markV (ids : List Id) : List V -> List T -> V -> V
 | x :: xs, t :: ts, y => (match owned x && y.own == x.own && !y.t.isBad with
  | true => ⟨t, x.own.toList, true, x.own⟩
  | false => markV ids xs ts y)
 | _, _, y => kill ids y
def sameEl : List V -> List (T × Bool) -> Bool
 | [], [] => true
 | x :: xs, t :: ts => (x.t.scalar && t.1.scalar || !t.1.scalar && elOf t.1 == elOf x.t) && sameEl xs ts
 | _, _ => false
def lendT (ag : Bool) (l : List V) : T := match ag with | true => .agg (l.map (·.t)) | false => (l.map (·.t)).headD .bad
def lendSt (S : St) (dst : Option Nat) (f : FuncId) (ag : Bool) (l : List V) (n : Int) : Tr St :=
 .chk (isStatic P f && !l.any (·.t.isBad) && l.all lentV && apart [] (l.filter owned) && (gs l).all notB)
  (.call f [.own (lendT ag l), .v (.int .i64 n)] fun r =>
   match r.rets, r.outs with
   | [.vals false [(.int .i64 m, true)]], [o] => .chk (sameEl l o && o.all (·.2)) (.ret ((S.map (markV (gs l) l (o.map (·.1)))).put dst (.val (V.s (.int .i64 m)))))
   | _, _ => .no)
def rowT (t : T) : Bool := match t with | .nums e _ _ _ => szOf P e == 1 | .sl e _ _ => szOf P e != 0 | _ => false
def partSt (S : St) (dst : Option Nat) (f : FuncId) (y x : V) (i : Int) (off : Nat) (n : Int) : Tr St :=
  match x.own, x.t with
  | some id, .sl e z l =>
    .chk (isStatic P f && x.sep && x.g.all notB && rowT P y.t)
      (.call f [.own y.t, .v (.int .i64 n)] fun r =>
        match r.rets, r.outs with
        | [.vals false [(.int .i64 m, true)]], [[(t, true)]] => .chk (match (cellTys P depth e)[off]? with | some ty => ok1 P ty t | none => false)
          (let full := match isAgg P e with | true => T.agg ((expFrom P [] 0 (l.getD i.toNat .bad).cells (cellTys P depth e)).map (·.t)) | false => .bad
           .ret ((S.map (rewrite id x.g (.sl e z (l.set i.toNat (setCells full off [t]))) x.g true)).put dst (.val (V.s (.int .i64 m)))))
        | _, _ => .no)
  | _, _ => .no
def cutGo (S : St) (dst : Option Nat) (x : V) (e' : TypeId) (k' : IntKind) (z' : Bool) (l' : List Int) : Tr St := match x.own, x.t, dst with
 | some id, .nums e k z l, some d => .chk (!isH id && notB id && e == e' && k == k' && szOf P e == 1) (.ret ((S.map (kill [id])).put (some d) (.val ⟨.nums e k z' l', [id], true, some id⟩)))
 | _, _, _ => .no
def sortSt (S : St) (dst : Option Nat) (f : FuncId) (x : V) : Tr St :=
 .chk (isStatic P f && !x.t.isBad && lentV x && apart [] ([x].filter owned) && (gs [x]).all notB)
  (.call f [.own x.t] fun r =>
   match r.rets, r.outs with
   | [], [o] => .chk (sameEl [x] o && o.all (·.2)) (.ret ((S.map (markV (gs [x]) [x] (o.map (·.1)))).put dst (.tup [])))
   | [.vals false [(.nums e' k' z' l', true)]], [] => cutGo P S dst x e' k' z' l'
   | _, _ => .no)
def markSt (S : St) (dst : Option Nat) (f : FuncId) (ts : List TypeId) : List Operand -> Tr St
 | [.tmp s] => (match S.tmp s with
  | .val x => sortSt P S dst f x
  | _ => .no)
 | [.tmp s, y] => (match S.tmp s, ev P S (ts.getD 1 0) y with
  | .pt v x i off, .val b => (match b.t with | .int .i64 n => partSt P S dst f v x i off n | _ => .no)
  | .val x, .val b => (match b.t with | .int .i64 n => lendSt P S dst f false [x] n | _ => .no)
  | .agg l, .val b => (match b.t with | .int .i64 n => lendSt P S dst f true l n | _ => .no)
  | _, _ => .no)
 | _ => .no
def step (S : St) (o : Oper) : Tr St :=
 match o.op with
 | .alloc t => (match o.dst with | some d => allocSt P S d t none | none => .no)
 | .box t x => (match o.dst, cellsTV (ev P S t x) with | some d, some vs => allocSt P S d t (some vs) | _, _ => .no)
 | .store t p x => (match o.dst, cellsTV (ev P S t x) with | none, some vs => storeSt P S t (ev P S 0 p) vs | _, _ => .no)
 | .call { callee := .builtin .append, args := args, argTypes := ts } => (match args.toList, o.dst with
  | [x, y], some d => (match ev P S (ts.getD 0 0) x, ev P S (ts.getD 1 0) y with
   | .val a, .val b => appendSt P S d ts.toList a b
   | _, _ => .no)
  | _, _ => .no)
 | .call { callee := .builtin .copy, args := args, argTypes := ts } => (match args.toList with
  | [x, y] => (match ev P S (ts.getD 1 0) y with | .val b => .chk (decide (0 < ts.size)) (copySt P S o.dst (ts.getD 0 0) (ev P S (ts.getD 0 0) x) b) | _ => .no)
  | _ => .no)
 | .call { callee := .value f, args := args, argTypes := ts } => (match ev P S 0 f with
  | .val x => (match x.t with | .fn g caps => (match isMark P 6 g && caps.isEmpty with | true => markSt P S o.dst g ts.toList args.toList | false => callSt P S (o.dst.getD 0) o.dst g caps x.g ts.toList args.toList) | _ => .no)
  | _ => .no)
 | .buildSlice .. | .makeSlice .. => .chk (!S.has (ofSite (o.dst.getD 0))) ((quiet P S o).bind fun v => .ret (S.put o.dst v))
 | _ => (quiet P S o).bind fun v => .ret (S.put o.dst v)
def yieldedA (S : St) (ops : Array Oper) (j : Nat) : Option (Option Bool) :=
 match (ops[j]?).bind (·.dst) with
 | some d => (match S.tmp d with
  | .val x => (match x.t with | .bool b => some (some b) | _ => none)
  | .tup [] => some none
  | _ => none)
 | none => some none
def isGuard (ops : Array Oper) (i : Nat) : Bool := ops.any fun o => match o.guard with | some (j, _) => i == j | none => false
def decideAt {R : Type} (ops : Array Oper) (i : Nat) (S : St) (K : St -> Option R) : Option R :=
 match isGuard ops i with
 | false => K S
 | true => match (ops[i]?).bind (·.dst) with
  | none => K S
  | some d => match S.tmp d with
   | .val ⟨.bool b, g, sep, own⟩ => cond b (K (S.put (some d) (.val ⟨.bool true, g, sep, own⟩))) (K (S.put (some d) (.val ⟨.bool false, g, sep, own⟩)))
   | _ => K S
def skipped : TV := .tup []
def runOps {R : Type} (C : CallSem) (ops : Array Oper) : List Nat -> St -> (St -> Option R) -> Option R
 | [], S, K => K S
 | i :: rest, S, K =>
  match ops[i]? with
  | none => runOps C ops rest S K
  | some o =>
   match o.guard with
   | none => (step P S o).go C fun S' => decideAt ops i S' fun S'' => runOps C ops rest S'' K
   | some (j, want) =>
    match yieldedA S ops j with
    | none => none
    | some y => match y == some want with
     | true => (step P S o).go C fun S' => decideAt ops i S' fun S'' => runOps C ops rest S'' K
     | false => runOps C ops rest (S.put o.dst skipped) K
def befores (ops : Array Oper) : Array Nat := Region.before ops
def headLen (ops : Array Oper) : Nat -> Nat
 | 0 => 0
 | n + 1 => match ((befores ops).getD n 0) % 2 ^ n == 2 ^ n - 1 with
  | true => headLen ops n
  | false => n + 1
def opTmps (o : Oper) : List Nat := o.op.operands.toList.filterMap fun x => match x with | .tmp t => some t | _ => none
def makes (o : Oper) : Bool := match o.op with
 | .buildSlice .. | .makeSlice .. => true
 | .call { callee := .value _, .. } => true
 | _ => false
def waits (bs : Array Nat) (i j : Nat) : Bool := decide (j < i) && (bs.getD i 0).testBit j
def edgesOk (ops : Array Oper) : Bool :=
 (List.range ops.size).all fun i => match ops[i]? with
  | none => false
  | some o => o.after.all fun e => !Region.binds .any e || decide (e.on < i)
def flowOk (ops : Array Oper) (m : Nat) : Bool :=
 let bs := befores ops
 edgesOk ops && (List.range m).all fun i => match ops[i]? with
  | none => false
  | some o => o.dst.isSome &&
   (match o.guard with | none => true | some (j, _) => waits bs i j) &&
   (List.range m).all fun j => i == j || (match ops[j]? with
    | none => false
    | some o' => o.dst != o'.dst && (waits bs i j || waits bs j i || !((opTmps o).any fun t => o'.dst == some t)))
def siteOk (ops : Array Oper) (m : Nat) (S0 S : St) : Bool :=
 let bs := befores ops
 (List.range m).all fun i => match ops[i]? with
  | none => false
  | some o => match makes o, o.dst with
   | true, some d => !S0.has (ofSite d) && (List.range m).all fun j => i == j || waits bs j i || (match (ops[j]?).bind (·.dst) with | some e => !anyV (fun x => x.g.any (ofSite d)) (S.tmp e) | none => true)
   | _, _ => true
inductive Eff where
 | put (d : Option Nat) (v : TV)
 | app (ids : List Id) (d : Nat) (v : TV)
 | new (d : Nat) (b : Box)
 | wr (d : Nat) (b : Box)
 | cal (ids : List Id) (q : Nat) (b : Box) (d : Nat) (v : TV)
def Eff.act : Eff -> St -> St
 | .put d v, S => S.put d v
 | .app ids d v, S => (S.map (kill ids)).put (some d) v
 | .new d b, S => ({ S with tmps := S.tmps.set d (.bp d 0) }).setBox d (some b)
 | .wr d b, S => S.write d b
 | .cal ids q b d v, S => ((S.map (kill ids)).setBox q (some b)).put (some d) v
def Eff.dst : Eff -> Option Nat
 | .put d _ => d
 | .app _ d _ => some d
 | .new d _ => some d
 | .wr _ _ => Option.none
 | .cal _ _ _ d _ => some d
def Eff.bx : Eff -> Option Nat
 | .new d _ => some d
 | .wr d _ => some d
 | .cal _ q _ _ _ => some q
 | _ => Option.none
def Eff.ids : Eff -> List Id
 | .app ids _ _ => ids
 | .wr d _ => [.b d]
 | .cal ids _ _ _ _ => ids
 | _ => []
def Eff.tv : Eff -> TV
 | .put _ v => v
 | .app _ _ v => v
 | .new d _ => .bp d 0
 | .wr _ _ => .undef
 | .cal _ _ _ _ v => v
def Eff.bc : Eff -> Option Box
 | .new _ b => some b
 | .wr _ b => some b
 | .cal _ _ b _ _ => some b
 | _ => Option.none
def boxAny (p : V -> Bool) : Option Box -> Bool
 | some (.cells l) => l.any p
 | _ => false
def Eff.any (p : V -> Bool) (e : Eff) : Bool := anyV p e.tv || boxAny p e.bc
def calm (ids : List Id) : TV -> Bool
 | .pt _ _ _ _ => false
 | t => !anyV (fun x => meets x.g ids) t
def newCal (ids : List Id) (d : Nat) (c : Box) (q d' : Nat) : Bool := !ids.isEmpty && d != d' && d != q && !boxAny (fun x => meets x.g ids) (some c)
def Eff.comm (a b : Eff) : Bool := match a with
 | .put (some d) v => (match b with
  | .put (some d') _ => d != d'
  | .app ids d' _ => d != d' && calm ids v
  | .new d' _ => d != d'
  | .wr q _ => calm [.b q] v
  | .cal ids _ _ d' _ => d != d' && calm ids v
  | _ => false)
 | .new d c => (match b with
  | .new d' _ => d != d'
  | .cal ids q _ d' _ => newCal ids d c q d'
  | _ => false)
 | .cal ids q _ d' _ => (match b with
  | .new d c => newCal ids d c q d'
  | _ => false)
 | _ => false
def clear (r : Bool) (e : Eff) (t : TV) : Bool := (e.ids.isEmpty || calm e.ids t) && (!r || match e.bx with | some d => !t.at d | Option.none => true)
def loud (o : Oper) : Bool := match o.op with
 | .alloc _ => true
 | .box .. => true
 | .store .. => true
 | .call { callee := .builtin .append, .. } => true
 | .call { callee := .value _, argTypes := ts, .. } => ts.toList.any (ptrTy P)
 | _ => false
def anyLoud (ops : Array Oper) (m : Nat) : Bool := (List.range m).any fun i => match ops[i]? with | some o => loud P o | Option.none => false
def appE (d : Nat) (e : TypeId) (id : Id) (a b : V) : Tr Eff :=
  match a.t, b.t with
  | .nums e1 k z l, .nums _ k' _ m => .chk (notB id && !isH id && e == e1 && k == k' && szOf P e == 1)
      (.must (decide (l.length + m.length < room (bytesOf P e)))
        (.ret (.app [id] d (.val ⟨.nums e k (m.isEmpty && z) (l ++ m), [id], true, some id⟩))))
  | .sl e1 z l, .sl e2 _ m => .chk (notB id && !isH id && e == e1 && e == e2 && !b.g.contains id && (cellTys P depth e).length == szOf P e)
      (.must (decide (l.length + m.length < room (bytesOf P e)))
        (match a.sep && b.sep && !meets a.g b.g && (a.g ++ b.g).all notB with
         | true => .ret (.app (id :: (a.g ++ b.g)) d (.val ⟨.sl e (m.isEmpty && z) (l ++ m), [id], true, some id⟩))
         | false => .ret (.app [id] d (.val ⟨.sl e (m.isEmpty && z) (l ++ m), unionId (id :: a.g.filter (· != id)) b.g, false, some id⟩))))
  | _, _ => .no
def appendE (d : Nat) (ts : List TypeId) (a b : V) : Tr Eff :=
  match ts with
  | [t, t'] => .chk (t == t') (match P.underlying t with
    | some (.slice e) => .chk (bytesOf P e != 0 && szOf P e != 0 && (zeroCells P e).length == szOf P e)
      (match a.own with
       | some id => appE P d e id a b
       | _ => .no)
    | _ => .no)
  | _ => .no
def newE (d : Nat) (t : TypeId) (init : Option (List V)) : Tr Eff :=
  .chk (arrKind P t).isNone
    (let vs := init.getD (zeros P t)
     .chk (okCells P (cellTys P depth t) vs && !vs.isEmpty && (init.isSome || (zeros P t).length == (zeroCells P t).length && !(zeroCells P t).isEmpty)) (.ret (.new d (.cells vs))))
def compsTV : List (Bool × List V) -> TV
 | [c] => compTV c
 | cs => .tup cs
def callE (S : St) (d : Nat) (f : FuncId) (caps : List T) (cg : List Id) (ts : List TypeId) (xs : List Operand) : Tr Eff :=
  .chk (isStatic P f)
    (match argsOf P S ts xs with
     | none => .no
     | some as =>
       match qsOf P S xs with
       | [q] =>
         let g := as.flatMap (·.2) ++ cg
         let ow := ownedOf S [q]
         .chk (apart [] ow && (gs ow).all notB && !meets g (gs ow ++ [.b q]))
           (.call f (as.map (·.1) ++ caps.map .v) fun r =>
             match backComps d g 0 r.rets, S.box q, r.outs with
             | some cs, some (.cells l), [o] => .chk (l.length == o.length) (.ret (.cal (gs ow ++ [.b q]) q (.cells (backV d g (retLen r.rets) o)) d (compsTV cs)))
             | _, _, _ => .no)
       | _ => .no)
def loudE (S : St) (o : Oper) : Tr Eff :=
 match o.op with
 | .alloc t => (match o.dst with | some d => newE P d t Option.none | _ => .no)
 | .box t x => (match o.dst, cellsTV (ev P S t x) with | some d, some vs => newE P d t (some vs) | _, _ => .no)
 | .store t p x => (match o.dst, cellsTV (ev P S t x), ev P S 0 p with
  | Option.none, some xs, .bp d off => (match S.box d with
   | some (.cells l) => .chk (decide (off + xs.length <= l.length) && okTy P t && okCells P (cellTys P depth t) xs && !meets (gs xs) [.b d]) (.ret (.wr d (.cells (lay (l.map (kill [.b d])) off xs))))
   | _ => .no)
  | _, _, _ => .no)
 | .call { callee := .builtin .append, args := args, argTypes := ts } => (match args.toList, o.dst with
  | [x, y], some d => (match ev P S (ts.getD 0 0) x, ev P S (ts.getD 1 0) y with
   | .val a, .val b => appendE P d ts.toList a b
   | _, _ => .no)
  | _, _ => .no)
 | .call { callee := .value f, args := args, argTypes := ts } => (match ev P S 0 f, o.dst with
  | .val x, some d => (match x.t with | .fn g caps => .chk (!(isMark P 6 g && caps.isEmpty)) (callE P S d g caps x.g ts.toList args.toList) | _ => .no)
  | _, _ => .no)
 | _ => .no
def unord (bs : Array Nat) (i j : Nat) : Bool := !waits bs i j && !waits bs j i
def mixFlow (ops : Array Oper) (m : Nat) : Bool :=
 let bs := befores ops
 edgesOk ops && (List.range m).all fun i => match ops[i]? with
  | Option.none => false
  | some o => o.guard.isNone && (loud P o || o.dst.isSome) &&
   (List.range m).all fun j => i == j || (match ops[j]? with
    | Option.none => false
    | some o' => (o.dst.isNone || o.dst != o'.dst) && (!unord bs i j || !((opTmps o).any fun t => o'.dst == some t)))
def reads (o : Oper) : Bool := match o.op with
 | .fieldAddr .. => false
 | .nilCheck _ => false
 | .move _ => false
 | .assign _ => false
 | _ => true
def calmBox (e : Eff) (b : Option Box) : Bool := e.ids.isEmpty || !boxAny (fun x => meets x.g e.ids) b
def effAt (es : List Eff) (k : Nat) : Eff := es.getD k (.put Option.none .undef)
def mixOk (ops : Array Oper) (m : Nat) (S0 : St) (es : List Eff) : Bool :=
  let bs := befores ops
  (List.range m).all fun j => match ops[j]? with
    | Option.none => false
    | some o => match loud P o with
      | false => (match makes o, o.dst with
        | true, some d => !S0.has (ofSite d) && (List.range m).all fun k => k == j || waits bs k j || !(effAt es k).any (fun x => x.g.any (ofSite d))
        | _, _ => true)
      | true =>
        ((List.range m).all fun i => i == j || !unord bs i j || (match ops[i]? with
          | Option.none => false
          | some o' => (effAt es i).comm (effAt es j) && (opTmps o').all fun t => clear (reads o') (effAt es j) (S0.tmp t) && (List.range m).all fun k => (effAt es k).dst != some t || clear (reads o') (effAt es j) (effAt es k).tv)) &&
        (!((List.range m).any fun i => i != j && unord bs i j && (match ops[i]? with | some o' => reads o' | Option.none => true)) || (S0.boxes.all (calmBox (effAt es j)) && (List.range m).all fun k => calmBox (effAt es j) (effAt es k).bc)) &&
        (match effAt es j with
         | .new d _ => noPtr S0 d && decide (d < S0.boxes.length) && (List.range m).all fun k => k == j || waits bs k j || (!(effAt es k).tv.at d && (effAt es k).bx != some d && !(effAt es k).any (fun x => x.g.any fun i => match i with | .b d' => d == d' | _ => false))
         | .cal _ _ _ d _ => !S0.has (ofSite d) && (List.range m).all fun k => k == j || waits bs k j || !(effAt es k).any (fun x => x.g.any (ofSite d))
         | _ => true)
def runHead {R : Type} (C : CallSem) (ops : Array Oper) : List Nat -> St -> (St -> Option R) -> Option R
 | [], S, K => K S
 | i :: rest, S, K =>
  match ops[i]? with
  | none => none
  | some o =>
   match o.guard with
   | none => (quiet P S o).go C fun v => decideAt ops i (S.put o.dst v) fun S' => runHead C ops rest S' K
   | some (j, want) =>
    match yieldedA S ops j with
    | none => none
    | some y => match y == some want with
     | true => (quiet P S o).go C fun v => decideAt ops i (S.put o.dst v) fun S' => runHead C ops rest S' K
     | false => runHead C ops rest (S.put o.dst skipped) K
def runMix {R : Type} (C : CallSem) (ops : Array Oper) : List Nat -> St -> List Eff -> (St -> List Eff -> Option R) -> Option R
 | [], S, es, K => K S es
 | i :: rest, S, es, K =>
  match ops[i]? with
  | none => none
  | some o =>
   match loud P o with
   | true => (loudE P S o).go C fun e => runMix C ops rest (e.act S) (es ++ [e]) K
   | false => (quiet P S o).go C fun v => runMix C ops rest (S.put o.dst v) (es ++ [.put o.dst v]) K
def runRegion {R : Type} (C : CallSem) (ops : Array Oper) (draw : Bool) (S : St) (K : St -> Option R) : Option R :=
 match draw with
 | false => runOps P C ops (List.range ops.size) S K
 | true =>
  let m := headLen ops ops.size
  match anyLoud P ops m with
  | false => (match flowOk ops m with
   | false => none
   | true => runHead P C ops (List.range m) S fun S' =>
    match siteOk ops m S S' with
    | false => none
    | true => runOps P C ops ((List.range (ops.size - m)).map (· + m)) S' K)
  | true => (match mixFlow P ops m with
   | false => none
   | true => runMix P C ops (List.range m) S [] fun S' es =>
    match mixOk P ops m S es with
    | false => none
    | true => runOps P C ops ((List.range (ops.size - m)).map (· + m)) S' K)
def isLoc : Id -> Bool | .n _ _ => false | _ => true
def rename (L id : Id) (mg : List Id) (x : V) (g : List Id) (sep : Bool) (y : V) : V :=
 match y.own == some id && !y.t.isBad with
 | true => ⟨x.t, g, sep, some L⟩
 | false => kill (L :: id :: mg) y
def renameSt (L id : Id) (x : V) (S : St) : St :=
 match notB id && !x.t.isBad with
 | true => (match x.sep && x.g.all notB with
  | true => S.map (rename L id x.g x [L] true)
  | false => S.map (rename L id (x.g.filter (fun i => !isLoc i)) x (L :: x.g.filter (fun i => i != id && i != L && isLoc i)) false))
 | false => S
def nilV (t : T) (L : Id) : V := ⟨t, [L], true, some L⟩
def nilOk (t : T) : Bool := match t with | .nums e _ true [] => szOf P e == 1 | .sl e true [] => szOf P e != 0 | _ => false
def claimT (S : St) (i : Nat) : St :=
 match S.tmp i with
 | .val x => (match x.own with
  | some id => (match (id == .l i 0 && x.g == [id]) || isH id with | true => S | false => renameSt (.l i 0) id x S)
  | none => (match nilOk P x.t with
   | true => let S' := S.map (kill [.l i 0]); { S' with tmps := S'.tmps.set i (.val (nilV x.t (.l i 0))) }
   | false => S))
 | _ => S
def claimC (S : St) (d j : Nat) : St :=
 match S.box d with
 | some (.cells l) => (match l[j]? with
  | some x => (match x.own with
   | some id => (match id == .l d (j + 1) && x.g == [id] with | true => S | false => renameSt (.l d (j + 1)) id x S)
   | none => (match nilOk P x.t with
    | true => let S' := S.map (kill [.l d (j + 1)])
         S'.setBox d (some (.cells ((l.map (kill [.l d (j + 1)])).set j (nilV x.t (.l d (j + 1))))))
    | false => S))
  | none => S)
 | _ => S
def dropV (y : V) : V := match y.g.all isLoc with | true => y | false => ⟨y.t, y.g.filter isLoc, false, none⟩
def hold (keep : List Nat) (S : St) : St :=
 let ts := S.tmps.zipIdx.map fun t => match keep.contains t.2 with
  | true => (match t.1 with | .ap _ _ _ => .undef | .as _ _ => .undef | .tup _ => .undef | t => t)
  | false => .undef
 ⟨ts, S.boxes.zipIdx.map fun b => match ts.any (TV.at b.2) with | true => b.1 | false => none, S.np⟩
def partV (g : List Id) (x : V) : V := match x.own.isSome && !x.t.scalar && x.g.all (g.contains ·) with | true => ⟨x.t, g, false, x.own⟩ | false => V.bad
def weakV (g : List Id) (x : V) : V := match g with
 | .n _ _ :: g' => partV g' x
 | g => match x.t.scalar with
  | true => V.s x.t
  | false => (match x.g.all (g.contains ·) with | true => ⟨x.t, g, false, none⟩ | false => V.bad)
structure Keep where
 slots : List (Nat × Option (List Id))
 cells : List (Nat × List (Option (List Id)))
def look {α : Type} (d : α) : List (Nat × α) -> Nat -> α
 | [], _ => d
 | (j, x) :: r, i => match Nat.beq i j with | true => x | false => look d r i
def weakTs (K : List (Nat × Option (List Id))) : Nat -> List TV -> List TV
 | _, [] => []
 | i, t :: ts => (match look none K i with | some g => mapTV (weakV g) t | none => t) :: weakTs K (i + 1) ts
def weakCs : List (Option (List Id)) -> List V -> List V
 | f :: fs, x :: xs => (match f with | some g => weakV g x | none => x) :: weakCs fs xs
 | [], xs => xs
 | _, [] => []
def weakBs (K : List (Nat × List (Option (List Id)))) : Nat -> List (Option Box) -> List (Option Box)
 | _, [] => []
 | i, b :: bs => (match b with | some (.cells l) => some (.cells (weakCs (look [] K i) l)) | b => b) :: weakBs K (i + 1) bs
def weaken (K : Keep) (S : St) : St := ⟨weakTs K.slots 0 S.tmps, weakBs K.cells 0 S.boxes, S.np⟩
def claimCs (S : St) (d : Nat) : Nat -> List (Option (List Id)) -> St
 | _, [] => S
 | j, f :: fs => claimCs (match f with | none => claimC P S d j | some (.n _ _ :: _) => claimC P S d j | some _ => S) d (j + 1) fs
def norm (K : Keep) (S : St) : St :=
 let S1 := hold (K.slots.map (·.1)) S
 let S2 := K.slots.foldl (fun S s => match s.2 with | none => claimT P S s.1 | some (.n _ _ :: _) => claimT P S s.1 | some _ => S) S1
 let S3 := K.cells.foldl (fun S c => claimCs P S c.1 0 c.2) S2
 weaken K (S3.map dropV)
inductive Ex where
 | normal
 | exit (id : Nat)
 | ret
def entryCells (i j : Nat) : List (T × Bool) -> List V
 | [] => []
 | (t, own) :: rest => (match t.scalar with
  | true => V.s t
  | false => (match own with | true => ⟨t, [.l i j], true, some (.l i j)⟩ | false => ⟨t, [], false, none⟩)) :: entryCells i (j + 1) rest
def entryTV (i : Nat) : Arg -> TV
 | .v (.agg l) => .agg (l.map fun t => V.of t [])
 | .v (.ptr l) => .pp ⟨.ptr l, [], false, none⟩ 0
 | .v t => .val (V.of t [])
 | .box _ => .bp i 0
 | .own t => .val ⟨t, [.l i 0], true, some (.l i 0)⟩
def entryBox (i : Nat) : Arg -> Option Box
 | .box l => some (.cells (entryCells i 1 l))
 | _ => none
def entry (fn : Func) (args : List Arg) : St :=
  ⟨(args.zipIdx.map fun a => entryTV a.2 a.1) ++ List.replicate (fn.ntmps - args.length) .undef,
   (args.zipIdx.map fun a => entryBox a.2 a.1) ++ List.replicate (fn.ntmps - args.length) none, args.length⟩
def argOk : List TypeId -> List Arg -> Bool
 | t :: ts, .v x :: xs => (match x with | .ptr _ => true | x => okT P t x) && argOk ts xs
 | _ :: ts, _ :: xs => argOk ts xs
 | _, _ => true
def flagV (u : List Id) (m : Bool) (x : V) : (T × Bool) × List Id :=
 match x.t.scalar with
 | true => ((x.t, true), u)
 | false => (match m with
  | false => ((x.t, false), u)
  | true => (match x.own with
   | some _ => (match x.sep && !meets x.g u && x.g.all notB with
    | true => ((x.t, true), x.g ++ u)
    | false => ((x.t, false), u))
   | none => (match nilOk P x.t with
    | true => ((x.t, true), u)
    | false => ((x.t, false), u))))
def flagVs (u : List Id) : List Bool -> List V -> List (T × Bool) × List Id
 | _, [] => ([], u)
 | ms, x :: xs => let a := flagV P u (ms.headD true) x; let r := flagVs a.2 ms.tail xs; (a.1 :: r.1, r.2)
def outsOf (S : St) (i : Nat) : List Arg -> Option (List (List V))
 | [] => some []
 | .box l0 :: as => (match S.box i, outsOf S (i + 1) as with
  | some (.cells l), some r => (match l.length == l0.length with | true => some (l :: r) | false => none)
  | _, _ => none)
 | .own _ :: _ => none
 | _ :: as => outsOf S (i + 1) as
def resTV (S : St) : ResultVar -> Tr TV
 | .tmp t => .ret (S.tmp t)
 | .cell a t => (match S.tmp a with | .bp d off => loadTV P S t (.bp d off) | _ => .no)
def farB (np : Nat) : Id -> Bool | .b d => decide (np <= d) | _ => true
def retOf (S : St) (np : Nat) (r : ResultVar) : Option (Nat × List V) :=
 match resTV P S r with
 | .ret (.val x) => some (0, [x])
 | .ret (.agg l) => some (1, l)
 | .ret (.bp d 0) => (match S.box d with
  | some (.cells l) => (match decide (d < np) with | true => none | false => some (2, l))
  | _ => none)
 | _ => none
def retsOf (S : St) (np : Nat) : List ResultVar -> Option (List (Nat × List V))
 | [] => some []
 | r :: rs => (match retOf P S np r, retsOf S np rs with | some a, some b => some (a :: b) | _, _ => none)
def mkRets : List (Nat × List V) -> List (T × Bool) -> List Ret
 | [], _ => []
 | (2, l) :: rs, fs => .box (fs.take l.length) :: mkRets rs (fs.drop l.length)
 | (k, l) :: rs, fs => .vals (k == 1) (fs.take l.length) :: mkRets rs (fs.drop l.length)
def mkOuts : List (List V) -> List (T × Bool) -> List (List (T × Bool))
 | [], _ => []
 | l :: ls, fs => fs.take l.length :: mkOuts ls (fs.drop l.length)
def sharedOk (u : List Id) : List V -> List (T × Bool) -> Bool
 | x :: xs, f :: fs => (f.2 || !meets x.g u) && sharedOk u xs fs
 | _, _ => true
def finish (mask : List Bool) (fn : Func) (args : List Arg) (S : St) : Option Res :=
 match outsOf S 0 args, retsOf P S args.length fn.results.toList with
 | some os, some rs =>
  let all := rs.flatMap (·.2) ++ os.flatten
  let fs := flagVs P [] mask all
  match !all.any (·.t.isBad) && sharedOk fs.2 all fs.1 && all.all (fun x => x.g.all (farB args.length)) && (rs.all (fun r => r.1 != 2) || (rs.length == 1 && all.all (fun x => x.g.all notB))) with
  | true => some ⟨mkRets rs fs.1, mkOuts os (fs.1.drop (rs.flatMap (·.2)).length)⟩
  | false => none
 | _, _ => none
def lentCells (j : Nat) : List T -> List V
 | [] => []
 | t :: ts => (match t.scalar with | true => V.s t | false => ⟨t, [.h j], true, some (.h j)⟩) :: lentCells (j + 1) ts
def entryM (fn : Func) (a : T) (n : Int) : St :=
 ⟨(match a with | .agg l => .agg (lentCells 0 l) | t => (match lentCells 0 [t] with | [x] => .val x | _ => .undef)) :: .val (V.s (.int .i64 n)) :: List.replicate (fn.ntmps - 2) .undef, List.replicate fn.ntmps none, 2⟩
def agOf : T -> Bool | .agg _ => true | _ => false
def lentBack (j : Nat) : List V -> Bool
 | [] => true
 | x :: xs => (x.t.scalar || (x.own == some (.h j) && x.sep && x.g == [.h j] && !x.t.isBad)) && lentBack (j + 1) xs
def sortRes (l : List T) : Res := ⟨[], [l.map fun t => (t, true)]⟩
def cutRes (t : T) : Res := ⟨[.vals false [(t, true)]], []⟩
def markRes (l : List T) (m : Int) : Res := ⟨[.vals false [(.int .i64 m, true)]], [l.map fun t => (t, true)]⟩
def finishM (fn : Func) (a : T) (S : St) : Option Res :=
 match fn.results.toList with
 | [r] => (match resTV P S r with
  | .ret (.val v) => (match v.t with
   | .int .i64 m => (match (S.tmp 0).plain with
    | .val x => (match lentBack 0 [x] && a.cells.length == 1 && !agOf a with | true => some (markRes [x.t] m) | false => none)
    | .agg l => (match lentBack 0 l && l.length == a.cells.length && agOf a with | true => some (markRes (l.map (·.t)) m) | false => none)
    | _ => none)
   | _ => none)
  | _ => none)
 | _ => none
end
end Go.Proofs.YthocpcfjfgnkgaaGreatRv
namespace Go.Proofs.YthocpcfjfgnkgaaGreatRv
open Go Go.RowKit
set_option linter.unusedVariables false
def Same (A : Nat -> Prop) (w w' : World) : Prop := ∀ b, A b -> w'.heap[b]? = w.heap[b]?
theorem Same.cell {A : Nat -> Prop} {w w' : World} (h : Same A w w') {a : Addr} (ha : A a.block) : w'.cell? a = w.cell? a := World.cell?_of_block (w := w) (h _ ha)
theorem Same.mono {A B : Nat -> Prop} {w w' : World} (h : Same A w w') (hs : ∀ b, B b -> A b) : Same B w w' := fun b hb => h b (hs b hb)
theorem Same.of_below {w w' : World} (h : Below w.heap.size w w') : Same (· < w.heap.size) w w' := fun b hb => h.block b hb
theorem qae (a : Addr) (n : Nat) : (a.add n).block = a.block := by unfold Addr.add; split <;> rfl
theorem qaA (a : Addr) (m n : Nat) : (a.add m).add n = a.add (m + n) := by
 unfold Addr.add
 by_cases h : m = 0 <;> by_cases h' : n = 0 <;> simp [h, h', Nat.add_assoc]
inductive Rd (P : Program) (w : World) (A : Nat -> Prop) : Value -> T -> Prop where
 | int (k : IntKind) (n : Int) : Rd P w A (.int k n) (.int k n)
 | bool (b : Bool) : Rd P w A (.bool b) (.bool b)
 | str (s : ByteArray) : Rd P w A (.string s) (.str s)
 | nf : Rd P w A .nilFunc .nf
 | ni : Rd P w A .nilIface .ni
 | nums (a : Option Addr) (n cap : Nat) (e : TypeId) (k : IntKind) (z : Bool) (l : List Int) (hn : l.length = n) (hz : z = a.isNone) (hm : n <= 9223372036854775807) (hcap : a = none -> cap = 0) (hnc : n <= cap)
   (hc : ∀ j, j < n -> ∃ ad, a = some ad /\ A ad.block /\ w.cell? (ad.add j) = some (.int k (l.getD j 0))) : Rd P w A (.slice a n cap) (.nums e k z l)
 | sl (a : Option Addr) (n cap : Nat) (e : TypeId) (z : Bool) (l : List T) (c : Nat -> Value) (hn : l.length = n) (hz : z = a.isNone) (hm : n <= 9223372036854775807) (hcap : a = none -> cap = 0) (hnc : n <= cap)
   (hsz : 0 < n -> (cellTys P depth e).length = szOf P e) (hs : ∀ x ∈ l, okT P e x = true)
   (hp : 0 < n -> ∃ ad, a = some ad /\ A ad.block /\ ∀ j, j < n * szOf P e -> w.cell? (ad.add j) = some (c j))
   (hr : ∀ i j, i < n -> j < szOf P e -> Rd P w A (c (i * szOf P e + j)) ((l.getD i .bad).cells.getD j .bad)) : Rd P w A (.slice a n cap) (.sl e z l)
 | agg (vs : Array Value) (l : List T) (hn : vs.size = l.length) (hr : ∀ i, i < l.length -> Rd P w A (vs.getD i undef) (l.getD i .bad)) : Rd P w A (.agg vs) (.agg l)
 | ptr (ad : Addr) (l : List T) (c : Nat -> Value) (hA : A ad.block) (hc : ∀ i, i < l.length -> w.cell? (ad.add i) = some (c i)) (hr : ∀ i, i < l.length -> Rd P w A (c i) (l.getD i .bad)) : Rd P w A (.pointer (some ad)) (.ptr l)
 | fn (f : FuncId) (vs : Array Value) (l : List T) (hn : vs.size = l.length) (hr : ∀ i, i < l.length -> Rd P w A (vs.getD i undef) (l.getD i .bad)) : Rd P w A (.func (.func f) #[] vs) (.fn f l)
theorem Rd.keep {P : Program} {w w' : World} {A B : Nat -> Prop} {v : Value} {x : T} (h : Rd P w A v x) (hs : Same A w w') (hB : ∀ b, A b -> B b) : Rd P w' B v x := by
 induction h with
 | int k n => exact .int k n
 | bool b => exact .bool b
 | str s => exact .str s
 | nf => exact .nf
 | ni => exact .ni
 | nums a n cap e k z l hn hz hm hcap hnc hc =>
  refine .nums a n cap e k z l hn hz hm hcap hnc fun j hj => ?_
  obtain ⟨ad, e1, e2, e3⟩ := hc j hj
  exact ⟨ad, e1, hB _ e2, by rw [<- e3]; exact hs.cell (by rw [qae]; exact e2)⟩
 | sl a n cap e z l c hn hz hm hcap hnc hsz hs' hp hr ih =>
  refine .sl a n cap e z l c hn hz hm hcap hnc hsz hs' (fun h => ?_) ih
  obtain ⟨ad, e1, e2, e3⟩ := hp h
  exact ⟨ad, e1, hB _ e2, fun j hj => by rw [<- e3 j hj]; exact hs.cell (by rw [qae]; exact e2)⟩
 | agg vs l hn hr ih => exact .agg vs l hn ih
 | ptr ad l c hA hc hr ih => exact .ptr ad l c (hB _ hA) (fun i hi => by rw [<- hc i hi]; exact hs.cell (by rw [qae]; exact hA)) ih
 | fn f vs l hn hr ih => exact .fn f vs l hn ih
inductive Sep (P : Program) (w : World) : (Nat -> Prop) -> Value -> T -> Prop where
 | scalar (B : Nat -> Prop) (v : Value) (x : T) (h : x.scalar = true) : Sep P w B v x
 | nilN (B : Nat -> Prop) (e : TypeId) (k : IntKind) (z : Bool) : Sep P w B (.slice none 0 0) (.nums e k z [])
 | nilS (B : Nat -> Prop) (e : TypeId) (z : Bool) : Sep P w B (.slice none 0 0) (.sl e z [])
 | nums (B : Nat -> Prop) (ad : Addr) (n cap : Nat) (e : TypeId) (k : IntKind) (z : Bool) (l : List Int) (cur : Array Value) (te : TypeId) (hn : l.length = n) (hb : B ad.block) (hsp : ad.spot = none)
   (hh : w.heap[ad.block]? = some (.cells cur te (0, 0))) (hf : ad.off + n <= cur.size) (ho : w.ownsRow 0 e 1 (.slice (some ad) n cap) l.length (l.map (.int k)) /\ szOf P e = 1) : Sep P w B (.slice (some ad) n cap) (.nums e k z l)
 | sl (B : Nat -> Prop) (ad : Addr) (n cap : Nat) (e : TypeId) (z : Bool) (l : List T) (cur : Array Value) (te : TypeId) (c : Nat -> Value) (Bs : Nat -> Nat -> Prop) (hn : l.length = n) (hb : B ad.block) (hsp : ad.spot = none)
   (hh : w.heap[ad.block]? = some (.cells cur te (0, 0))) (hf : ad.off + n * szOf P e <= cur.size) (ho : (∃ cs, w.ownsRow 0 e (szOf P e) (.slice (some ad) n cap) l.length cs) /\ 0 < szOf P e) (hc : ∀ j, j < n * szOf P e -> w.cell? (ad.add j) = some (c j))
   (hsub : ∀ j b, Bs j b -> B b /\ b ≠ ad.block) (hdis : ∀ i j b, Bs i b -> Bs j b -> i = j)
   (hr : ∀ i j, i < n -> j < szOf P e -> Sep P w (Bs (i * szOf P e + j)) (c (i * szOf P e + j)) ((l.getD i .bad).cells.getD j .bad)) : Sep P w B (.slice (some ad) n cap) (.sl e z l)
 | agg (B : Nat -> Prop) (vs : Array Value) (l : List T) (Bs : Nat -> Nat -> Prop) (hn : vs.size = l.length) (hsub : ∀ j b, Bs j b -> B b) (hdis : ∀ i j b, Bs i b -> Bs j b -> i = j)
   (hr : ∀ i, i < l.length -> Sep P w (Bs i) (vs.getD i undef) (l.getD i .bad)) : Sep P w B (.agg vs) (.agg l)
theorem qad {w w' : World} {base e size n : Nat} {v : Value} {xs : List Value} (h : w.ownsRow base e size v n xs) (hb : ∀ b, v.ownBlock = some b -> w'.heap[b]? = w.heap[b]?) : w'.ownsRow base e size v n xs := by
 refine ⟨h.1, ?_⟩
 rcases h.2 with h | ⟨g, cap, cur, rfl, h1, h2, h3⟩
 ·exact .inl h
 ·exact .inr ⟨g, cap, cur, rfl, h1, (hb g rfl).trans h2, h3⟩
theorem qdO {w w' : World} {e s m n cap : Nat} {ad : Addr} {xs : List Value} (ho : w.ownsRow 0 e s (.slice (some ad) n cap) m xs) (h : w'.heap[ad.block]? = w.heap[ad.block]?) : w'.ownsRow 0 e s (.slice (some ad) n cap) m xs :=
 qad ho fun b hb => by
  have e : ad.block = b := by simpa [Value.ownBlock] using hb
  exact e ▸ h
theorem Sep.mono {P : Program} {w : World} {A B : Nat -> Prop} {v : Value} {x : T} (h : Sep P w A v x) (hB : ∀ b, A b -> B b) : Sep P w B v x := by
 cases h with
 | scalar _ _ _ h => exact .scalar _ _ _ h
 | nilN _ e k z => exact .nilN _ e k z
 | nilS _ e z => exact .nilS _ e z
 | nums _ ad n cap e k z l cur te hn hb hsp hh hf ho => exact .nums _ ad n cap e k z l cur te hn (hB _ hb) hsp hh hf ho
 | sl _ ad n cap e z l cur te c Bs hn hb hsp hh hf ho hc hsub hdis hr => exact .sl _ ad n cap e z l cur te c Bs hn (hB _ hb) hsp hh hf ho hc (fun j b hj => ⟨hB _ (hsub j b hj).1, (hsub j b hj).2⟩) hdis hr
 | agg _ vs l Bs hn hsub hdis hr => exact .agg _ vs l Bs hn (fun j b hj => hB _ (hsub j b hj)) hdis hr
theorem Sep.keep {P : Program} {w w' : World} {B : Nat -> Prop} {v : Value} {x : T} (h : Sep P w B v x) (hs : Same B w w') : Sep P w' B v x := by
 induction h with
 | scalar B v x h => exact .scalar _ _ _ h
 | nilN B e k z => exact .nilN _ e k z
 | nilS B e z => exact .nilS _ e z
 | nums B ad n cap e k z l cur te hn hb hsp hh hf ho => exact .nums _ ad n cap e k z l cur te hn hb hsp ((hs _ hb).trans hh) hf ⟨qdO ho.1 (hs _ hb), ho.2⟩
 | sl B ad n cap e z l cur te c Bs hn hb hsp hh hf ho hc hsub hdis hr ih =>
  obtain ⟨⟨cs, ho1⟩, ho2⟩ := ho
  exact .sl _ ad n cap e z l cur te c Bs hn hb hsp ((hs _ hb).trans hh) hf ⟨⟨cs, qdO ho1 (hs _ hb)⟩, ho2⟩ (fun j hj => by rw [<- hc j hj]; exact hs.cell (by rw [qae]; exact hb)) hsub hdis
   (fun i j hi hj => ih i j hi hj (hs.mono fun b hb => (hsub _ b hb).1))
 | agg B vs l Bs hn hsub hdis hr ih => exact .agg _ vs l Bs hn hsub hdis (fun i hi => ih i hi (hs.mono fun b hb => hsub _ b hb))
structure OkT where
 p : Nat -> Prop
 arg : Nat -> Value
instance : CoeFun OkT (fun _ => Nat -> Prop) := ⟨OkT.p⟩
structure Mdl where
 β : Id -> Nat -> Prop
 bx : Nat -> Option Nat
 hd0 : Id -> Value
 ok : OkT
def Mdl.hd (M : Mdl) : Id -> Value
 | .h j => M.ok.arg j
 | r => M.hd0 r
theorem hd_n {M : Mdl} {d j : Nat} : M.hd (.n d j) = M.hd0 (.n d j) := rfl
theorem hd_l {M : Mdl} {d j : Nat} : M.hd (.l d j) = M.hd0 (.l d j) := rfl
theorem qkA {M : Mdl} {r : Id} (h : isH r = false) : M.hd r = M.hd0 r := by cases r <;> first | rfl | simp [isH] at h
theorem qgn {M : Mdl} {N : Mdl} {L : Id} {v : Value} (hL : isH L = false) (h : N.hd0 = fun r => if r = L then v else M.hd r) (ho : N.ok = M.ok) (r : Id) : N.hd r = if r = L then v else M.hd r := by
 cases hr : isH r with
 | false => rw [qkA hr, h]
 | true =>
  have hne : r ≠ L := fun e => by rw [e, hL] at hr; simp at hr
  rw [if_neg hne]
  cases r with
  | h j => show N.ok.arg j = M.ok.arg j; rw [ho]
  | _ => simp [isH] at hr
def avoid (M : Mdl) (w : World) (g : List Id) (b : Nat) : Prop := b < w.heap.size /\ (∀ r, r ∉ g -> ¬ M.β r b) /\ M.ok b
def inside (M : Mdl) (g : List Id) (b : Nat) : Prop := ∃ r ∈ g, M.β r b
def Own (P : Program) (M : Mdl) (w : World) (g : List Id) (id : Id) (v : Value) : T -> Prop
 | .nums e k z l => w.ownsRow 0 e 1 v l.length (l.map (.int k)) /\ szOf P e = 1 /\ ∀ b, v.ownBlock = some b -> M.β id b
 | .sl e z l => ∃ cs : List Value, w.ownsRow 0 e (szOf P e) v l.length cs /\ 0 < szOf P e /\ (∀ b, v.ownBlock = some b -> M.β id b) /\
   ∀ b, v.ownBlock = some b -> ∀ i j, i < l.length -> j < szOf P e -> Rd P w (fun q => avoid M w g q /\ q ≠ b) (cs.getD (i * szOf P e + j) undef) ((l.getD i .bad).cells.getD j .bad)
 | _ => False
structure VrG (P : Program) (M : Mdl) (w : World) (x : V) (v : Value) : Prop where
 rd : Rd P w (avoid M w x.g) v x.t
 sep : x.sep = true -> Sep P w (inside M x.g) v x.t
 own : ∀ id, x.own = some id -> id ∈ x.g /\ M.hd id = v /\ Own P M w x.g id v x.t
def Vr (P : Program) (M : Mdl) (w : World) (x : V) (v : Value) : Prop := x.t ≠ .bad -> VrG P M w x v
def VrL (P : Program) (M : Mdl) (w : World) (l : List V) (vs : Array Value) : Prop := vs.size = l.length /\ ∀ i, i < l.length -> Vr P M w (l.getD i V.bad) (vs.getD i undef)
def CompR (P : Program) (M : Mdl) (w : World) : Bool × List V -> Value -> Prop
 | (true, l), v => ∃ vs, v = .agg vs /\ VrL P M w l vs
 | (false, [x]), v => Vr P M w x v
 | _, _ => True
def Lies (P : Program) (M : Mdl) (w : World) (y x : V) (i : Int) (off : Nat) (v : Value) : Prop :=
 ∃ ad n cap e z l, VrG P M w x (.slice (some ad) n cap) /\ x.t = .sl e z l /\ 0 <= i /\ i < n /\ off < szOf P e /\ w.cell? (ad.add (i.toNat * szOf P e + off)) = some v /\ y.t = (l.getD i.toNat .bad).cells.getD off .bad
def TVr (P : Program) (M : Mdl) (w : World) : TV -> Value -> Prop
 | .undef, _ => True
 | .val x, v => Vr P M w x v
 | .agg l, v => ∃ vs, v = .agg vs /\ VrL P M w l vs
 | .tup l, v => ∃ vs, v = .tuple vs /\ vs.size = l.length /\ ∀ i, i < l.length -> CompR P M w (l.getD i (true, [])) (vs.getD i undef)
 | .bp d off, v => ∃ b, M.bx d = some b /\ v = .pointer (some ⟨b, off, none⟩)
 | .ep x i off, v => x.t ≠ .bad -> ∃ ad n cap e, VrG P M w x (.slice (some ad) n cap) /\ (match x.t with | .nums e' _ _ _ => e' = e | .sl e' _ _ => e' = e | _ => False) /\ 0 <= i /\ i < n /\ v = .pointer (some (ad.add (i.toNat * szOf P e + off)))
 | .ap d m i, v => ∃ b, M.bx d = some b /\ v = .pointer (some ⟨b, i.toNat, none⟩) /\ 0 <= i /\ i < m
 | .as d m, v => ∃ b, M.bx d = some b /\ v = .slice (some ⟨b, 0, none⟩) m m
 | .pp x off, v => x.t ≠ .bad -> ∃ ad, VrG P M w x (.pointer (some ad)) /\ v = .pointer (some (ad.add off))
 | .pt y x i off, v => Vr P M w y v /\ (x.t ≠ .bad -> Lies P M w y x i off v)
def BoxR (P : Program) (M : Mdl) (w : World) (b : Nat) : Box -> Prop
 | .cells l => ∃ cs ty, w.heap[b]? = some (.cells cs ty (0, 0)) /\ VrL P M w l cs
 | .arr k m l => ∃ ty, w.heap[b]? = some (.cells (l.map (.int k)).toArray ty (0, 0)) /\ l.length = m
structure Env where
 w0 : World
 U : Nat -> Prop
 np : Nat
 pin : Nat -> Option Nat
def glN : Nat := 0
def GL (w : World) : Prop := True
theorem GL.keep {w w' : World} (h : GL w) (hs : ∀ b, b < glN -> w'.heap[b]? = w.heap[b]?) : GL w' := trivial
-- behind: what stands on them
def Gl (E : Env) (K : OkT) : Prop := GL E.w0 /\ ∀ b, b < glN -> b < E.w0.heap.size /\ ¬ E.U b /\ K b
structure Inv (P : Program) (E : Env) (M : Mdl) (S : St) (w : World) : Prop where
 os : w.os = E.w0.os
 tape : w.tape = E.w0.tape
 output : w.output = E.w0.output
 size : E.w0.heap.size <= w.heap.size
 old : ∀ b, b < E.w0.heap.size -> ¬ E.U b -> w.heap[b]? = E.w0.heap[b]?
 dis : ∀ r s b, M.β r b -> M.β s b -> r = s
 lt : ∀ r b, M.β r b -> b < w.heap.size
 new : ∀ r b, M.β r b -> E.w0.heap.size <= b ∨ E.U b
 bxβ : ∀ d b, M.bx d = some b -> M.β (.b d) b
 okβ : ∀ r b, M.β r b -> M.ok b
 okN : (∀ b, E.w0.heap.size <= b -> M.ok b) /\ Gl E M.ok
 pin : (∀ d b, E.pin d = some b -> d < E.np /\ M.bx d = some b) /\ ∀ d b, M.bx d = some b -> d < E.np ∨ E.w0.heap.size <= b
 boxes : ∀ d x, S.box d = some x -> ∃ b, M.bx d = some b /\ BoxR P M w b x
structure Rel (P : Program) (E : Env) (M : Mdl) (S : St) (a : Act) (w : World) : Prop where
 inv : Inv P E M S w
 defers : a.defers = [] /\ S.np = E.np
 size : a.tmps.size = S.tmps.length
 tmps : ∀ i, TVr P M w (S.tmp i) (a.tmps.getD i undef)
theorem Inv.gl {P : Program} {E : Env} {M : Mdl} {S : St} {w : World} (h : Inv P E M S w) : GL w /\ ∀ b, b < glN -> (∀ r, ¬ M.β r b) /\ ∀ g, avoid M w g b := by
 obtain ⟨h1, h2⟩ := h.okN.2
 refine ⟨h1.keep fun b hb => h.old b (h2 b hb).1 (h2 b hb).2.1, fun b hb => ?_⟩
 obtain ⟨p1, p2, p3⟩ := h2 b hb
 have hn : ∀ r, ¬ M.β r b := fun r hr => by
  rcases h.new r b hr with h | h
  ·omega
  ·exact p2 h
 exact ⟨hn, fun g => ⟨Nat.lt_of_lt_of_le p1 h.size, fun r _ => hn r, p3⟩⟩
theorem qet {M : Mdl} {w w' : World} {g : List Id} (h : w.heap.size <= w'.heap.size) {b : Nat} (hb : avoid M w g b) : avoid M w' g b := ⟨Nat.lt_of_lt_of_le hb.1 h, hb.2⟩
theorem VrG.keep {P : Program} {M : Mdl} {w w' : World} {x : V} {v : Value} (h : VrG P M w x v) (hlt : ∀ r b, M.β r b -> b < w.heap.size) (hs : Same (avoid M w x.g) w w') (hi : Same (inside M x.g) w w') (hsz : w.heap.size <= w'.heap.size) : VrG P M w' x v := by
 refine ⟨h.rd.keep hs fun b hb => qet hsz hb, fun hx => (h.sep hx).keep hi, fun id hid => ?_⟩
 obtain ⟨h1, h2, h3⟩ := h.own id hid
 refine ⟨h1, h2, ?_⟩
 have hin : ∀ b, M.β id b -> w'.heap[b]? = w.heap[b]? := fun b hb => hi b ⟨id, h1, hb⟩
 cases hx : x.t with
 | nums e k z l =>
  rw [hx] at h3
  exact ⟨qad h3.1 fun b hb => hin b (h3.2.2 b hb), h3.2⟩
 | sl e z l =>
  rw [hx] at h3
  obtain ⟨cs, q1, q2, q3, q4⟩ := h3
  refine ⟨cs, qad q1 fun b hb => hin b (q3 b hb), q2, q3, fun b hb i j hi hj => (q4 b hb i j hi hj).keep (hs.mono fun q hq => hq.1) fun q hq => ⟨qet hsz hq.1, hq.2⟩⟩
 | _ => rw [hx] at h3; exact h3.elim
theorem VrG.grow {P : Program} {M : Mdl} {w w' : World} {x : V} {v : Value} (h : VrG P M w x v) (hlt : ∀ r b, M.β r b -> b < w.heap.size) (hb : Below w.heap.size w w') : VrG P M w' x v :=
 h.keep hlt (fun b h => hb.block b h.1) (fun b ⟨r, _, hr⟩ => hb.block b (hlt r b hr)) hb.size
theorem Vr.grow {P : Program} {M : Mdl} {w w' : World} {x : V} {v : Value} (h : Vr P M w x v) (hlt : ∀ r b, M.β r b -> b < w.heap.size) (hb : Below w.heap.size w w') : Vr P M w' x v := fun hx => (h hx).grow hlt hb
theorem TVr.map {P : Program} {M M' : Mdl} {w w' : World} {f : V -> V} {t : TV} {v : Value} (h : TVr P M w t v)
  (hf : ∀ x v, Vr P M w x v -> Vr P M' w' (f x) v) (hbx : ∀ d b, M.bx d = some b -> M'.bx d = some b)
  (he : ∀ x, (f x).t ≠ .bad -> x.t ≠ .bad /\ (match x.t, (f x).t with | .nums e _ _ _, .nums e' _ _ _ => e = e' | .sl e _ _, .sl e' _ _ => e = e' | .ptr _, .ptr _ => True | a, b => a = b)) : TVr P M' w' (mapTV f t) v := by
 have hl : ∀ (l : List V) (vs : Array Value), VrL P M w l vs -> VrL P M' w' (l.map f) vs := fun l vs h => by
  refine ⟨by simpa using h.1, fun i hi => ?_⟩
  have hi' : i < l.length := by simpa using hi
  have := hf _ _ (h.2 i hi')
  simpa [List.getD_eq_getElem?_getD, hi'] using this
 cases t with
 | undef => trivial
 | val x => exact hf _ _ h
 | agg l => obtain ⟨vs, e, h⟩ := h; exact ⟨vs, e, hl _ _ h⟩
 | tup l =>
  obtain ⟨vs, e, h1, h2⟩ := h
  refine ⟨vs, e, by simpa using h1, fun i hi => ?_⟩
  have hi' : i < l.length := by simpa using hi
  have := h2 i hi'
  simp only [List.getD_eq_getElem?_getD, List.getElem?_map, List.getElem?_eq_getElem hi', Option.map_some, Option.getD_some] at this ⊢
  generalize hc : l[i] = c at this
  obtain ⟨a, l'⟩ := c
  cases a with
  | true => obtain ⟨us, e', h'⟩ := this; exact ⟨us, e', hl _ _ h'⟩
  | false =>
   match l', this with
   | [], _ => trivial
   | [x], h' => exact hf _ _ h'
   | _ :: _ :: _, _ => trivial
 | bp d off => obtain ⟨b, h1, h2⟩ := h; exact ⟨b, hbx _ _ h1, h2⟩
 | ep x i off =>
  intro hx
  obtain ⟨hx', he'⟩ := he x hx
  obtain ⟨ad, n, cap, e, h1, h2, h3⟩ := h hx'
  refine ⟨ad, n, cap, e, hf x _ (fun _ => h1) hx, ?_, h3⟩
  cases hxt : x.t <;> rw [hxt] at h2 he' <;> first | exact h2.elim | skip
  all_goals
   cases hft : (f x).t <;> rw [hft] at he' <;> simp_all
 | ap d m i => obtain ⟨b, h1, h2⟩ := h; exact ⟨b, hbx _ _ h1, h2⟩
 | as d m => obtain ⟨b, h1, h2⟩ := h; exact ⟨b, hbx _ _ h1, h2⟩
 | pp x off =>
  intro hx
  obtain ⟨hx', he'⟩ := he x hx
  obtain ⟨ad, h1, h2⟩ := h hx'
  exact ⟨ad, hf x _ (fun _ => h1) hx, h2⟩
 | pt y x i off => exact hf _ _ h.1
theorem qjB {w : World} {ad : Addr} {v : Value} (h : w.cell? ad = some v) : ad.block < w.heap.size := by
 by_cases hb : ad.block < w.heap.size
 ·exact hb
 ·have : w.heap[ad.block]? = none := Array.getElem?_eq_none (by omega)
  simp [World.cell?, this] at h
theorem Lies.to {P : Program} {M M' : Mdl} {w w' : World} {y x : V} {i : Int} {off : Nat} {v : Value} (h : Lies P M w y x i off v) (hx : x.t ≠ .bad) (hf : ∀ v, Vr P M w x v -> Vr P M' w' x v) (hw : Same (· < w.heap.size) w w') : Lies P M' w' y x i off v := by
 obtain ⟨ad, n, cap, e, z, l, h1, h2, h3, h4, h5, h6, h7⟩ := h
 exact ⟨ad, n, cap, e, z, l, hf _ (fun _ => h1) hx, h2, h3, h4, h5, by rw [hw.cell (qjB h6)]; exact h6, h7⟩
theorem TVr.plain {P : Program} {M : Mdl} {w : World} {t : TV} {v : Value} (h : TVr P M w t v) : TVr P M w t.plain v := by
 cases t <;> first | exact h.1 | exact h
theorem qiS (t : TV) : mapTV (fun x => x) t = t.plain := by
 cases t <;> simp [mapTV, TV.plain]
theorem TVr.to {P : Program} {M M' : Mdl} {w w' : World} {t : TV} {v : Value} (h : TVr P M w t v) (hf : ∀ x v, Vr P M w x v -> Vr P M' w' x v) (hbx : ∀ d b, M.bx d = some b -> M'.bx d = some b) (hw : Same (· < w.heap.size) w w') : TVr P M' w' t v := by
 have key : TVr P M' w' t.plain v := by
  rw [<- qiS t]
  exact h.map hf hbx fun x hx => ⟨hx, by cases x.t <;> simp⟩
 cases t with
 | pt y x i off => exact ⟨key, fun hx => (h.2 hx).to hx (fun v h => hf x v h) hw⟩
 | _ => exact key
theorem TVr.grow {P : Program} {M : Mdl} {w w' : World} {t : TV} {v : Value} (h : TVr P M w t v) (hlt : ∀ r b, M.β r b -> b < w.heap.size) (hb : Below w.heap.size w w') : TVr P M w' t v :=
 h.to (fun x v h => h.grow hlt hb) (fun d b h => h) (Same.of_below hb)
theorem BoxR.grow {P : Program} {M : Mdl} {w w' : World} {b : Nat} {x : Box} (h : BoxR P M w b x) (hlt : ∀ r b, M.β r b -> b < w.heap.size) (hb : Below w.heap.size w w') : BoxR P M w' b x := by
 cases x with
 | cells l =>
  obtain ⟨cs, ty, h1, h2, h3⟩ := h
  have hl : b < w.heap.size := (Array.getElem?_eq_some_iff.1 h1).1
  exact ⟨cs, ty, (hb.block b hl).trans h1, h2, fun i hi => (h3 i hi).grow hlt hb⟩
 | arr k m l =>
  obtain ⟨ty, h1, h2⟩ := h
  have hl : b < w.heap.size := (Array.getElem?_eq_some_iff.1 h1).1
  exact ⟨ty, (hb.block b hl).trans h1, h2⟩
theorem Inv.grow {P : Program} {E : Env} {M : Mdl} {S : St} {w w' : World} (h : Inv P E M S w) (hb : Below w.heap.size w w') : Inv P E M S w' :=
 ⟨hb.os.trans h.os, hb.tape.trans h.tape, hb.output.trans h.output, Nat.le_trans h.size hb.size, fun b hb' hu => (hb.block b (Nat.lt_of_lt_of_le hb' h.size)).trans (h.old b hb' hu),
  h.dis, fun r b hr => Nat.lt_of_lt_of_le (h.lt r b hr) hb.size, h.new, h.bxβ, h.okβ, h.okN, h.pin, fun d x hx => by
   obtain ⟨b, h1, h2⟩ := h.boxes d x hx
   exact ⟨b, h1, h2.grow h.lt hb⟩⟩
theorem Rel.grow {P : Program} {E : Env} {M : Mdl} {S : St} {a : Act} {w w' : World} (h : Rel P E M S a w) (hb : Below w.heap.size w w') : Rel P E M S a w' :=
 ⟨h.inv.grow hb, h.defers, h.size, fun i => (h.tmps i).grow h.inv.lt hb⟩
theorem St.tmp_put (S : St) (d : Option Nat) (v : TV) (i : Nat) : (S.put d v).tmp i = if d = some i /\ i < S.tmps.length then v else S.tmp i := by
 cases d with
 | none => simp [St.put]
 | some d =>
  simp only [St.put, St.tmp, List.getD_eq_getElem?_getD, List.getElem?_set, Option.some.injEq]
  by_cases h : d = i
  ·subst h
   by_cases hl : d < S.tmps.length <;> simp [hl]
  ·simp [h]
theorem Rel.put {P : Program} {E : Env} {M : Mdl} {S : St} {a : Act} {w : World} (h : Rel P E M S a w) (d : Option Nat) (t : TV) (v : Value) (ht : TVr P M w t v) : Rel P E M (S.put d t) (a.put d v) w := by
 refine ⟨⟨h.inv.os, h.inv.tape, h.inv.output, h.inv.size, h.inv.old, h.inv.dis, h.inv.lt, h.inv.new, h.inv.bxβ, h.inv.okβ, h.inv.okN, h.inv.pin, fun q x hx => h.inv.boxes q x (by cases d <;> exact hx)⟩, ?_, ?_, fun i => ?_⟩
 ·cases d <;> exact h.defers
 ·cases d with
  | none => exact h.size
  | some d => simpa [Act.put, St.put] using h.size
 ·rw [St.tmp_put]
  cases d with
  | none => simpa [Act.put] using h.tmps i
  | some d =>
   simp only [Act.put, Array.getD_eq_getD_getElem?, Array.getElem?_setIfInBounds, Option.some.injEq]
   by_cases hd : d = i
   ·subst hd
    have hs := h.size
    by_cases hl : d < S.tmps.length
    ·simp [hl, hs, ht]
    ·have := h.tmps d
     have e : S.tmp d = .undef := by simp [St.tmp, List.getD_eq_getElem?_getD, List.getElem?_eq_none (Nat.le_of_not_lt hl)]
     simp [hl, e, TVr]
   ·have := h.tmps i
    rw [Array.getD_eq_getD_getElem?] at this
    simpa [hd] using this
end Go.Proofs.YthocpcfjfgnkgaaGreatRv
namespace Go.Proofs.YthocpcfjfgnkgaaGreatRv
open Go Go.RowKit
set_option linter.unusedVariables false
set_option linter.unusedSimpArgs false
theorem qei (k : IntKind) (n : Int) : wr k n = k.wrap n := by
 cases k <;> first | rfl | (simp [wr, wrap64, IntKind.wrap, IntKind.signed, IntKind.bits]; done) | (simp [wr, wrap64, IntKind.wrap, IntKind.signed, IntKind.bits]; omega)
theorem qh {α R : Type} {C : CallSem} {c : Bool} {t : Tr α} {K : α -> Option R} {r : R} (h : (Tr.chk c t).go C K = some r) : c = true /\ t.go C K = some r := by
 cases c with
 | true => exact ⟨rfl, h⟩
 | false => simp [Tr.chk, Tr.go] at h
theorem qv {α R : Type} {C : CallSem} {c : Bool} {t : Tr α} {K : α -> Option R} {r : R} (h : (Tr.must c t).go C K = some r) : c = true /\ t.go C K = some r := by
 cases c with
 | true => exact ⟨rfl, h⟩
 | false => simp [Tr.must, Tr.go] at h
theorem Ans.val_some {x : Ans} {a : x.A} (h : x.o = some a) : x.val = some (x.enc a) := by simp [Ans.val, h]
theorem qg {α R : Type} {C : CallSem} {K : α -> Option R} {r : R} (h : (Tr.no : Tr α).go C K = some r) : False := by simp [Tr.go] at h
theorem qcg {α β R : Type} (C : CallSem) (t : Tr α) (f : α -> Tr β) (K : β -> Option R) : (t.bind f).go C K = t.go C fun a => (f a).go C K := by
 induction t with
 | ret a => rfl
 | no => rfl
 | ite c a b ha hb => simp [Tr.bind, Tr.go, ha, hb]
 | call g args k ih => simp [Tr.bind, Tr.go, ih]
theorem qj {α R : Type} {C : CallSem} {a : α} {K : α -> Option R} {r : R} (h : (Tr.ret a).go C K = some r) : K a = some r := h
section
variable {P : Program} {w : World} {A : Nat -> Prop}
theorem Rd.int_inv {v : Value} {k : IntKind} {n : Int} (h : Rd P w A v (.int k n)) : v = .int k n := by cases h; rfl
theorem Rd.bool_inv {v : Value} {b : Bool} (h : Rd P w A v (.bool b)) : v = .bool b := by cases h; rfl
theorem Rd.str_inv {v : Value} {s : ByteArray} (h : Rd P w A v (.str s)) : v = .string s := by cases h; rfl
theorem qbu {t : TypeId} (h : isBoolTy P t = true) : P.underlying t = some .bool := by
 unfold isBoolTy at h
 split at h <;> simp_all
theorem qbt {t : TypeId} (h : isSliceTy P t = true) : ∃ e, P.underlying t = some (.slice e) := by
 unfold isSliceTy at h
 split at h <;> simp_all
theorem qhw (a b : Int) : (a == b) = decide (a = b) := by
 by_cases h : a = b <;> simp [h]
theorem qhJ (a b : ByteArray) : (a.toList == b.toList) = decide (a = b) := by
 by_cases h : a = b
 ·simp [h]
 ·have : a.toList ≠ b.toList := fun e => h (by
   rw [ByteArray.toList_eq, ByteArray.toList_eq] at e
   cases a; cases b
   simp at e
   rw [e])
  simp [h, this]
theorem qbo {v : Value} : ∀ {x : T}, isNilT x = true -> Rd P w A v x -> v = .slice none 0 0
 | .nums e k true [], _, h => by cases h with | nums a n cap _ _ _ _ hn hz hm hcap hnc hc => cases a with | none => have e := hcap rfl; subst e; rw [Nat.le_zero.1 hnc] | some a => simp at hz
 | .sl e true [], _, h => by cases h with | sl a n cap _ _ _ c hn hz hm hcap hnc => cases a with | none => have e := hcap rfl; subst e; rw [Nat.le_zero.1 hnc] | some a => simp at hz
theorem qiq {v : Value} {x : T} (h : Rd P w A v x) (hx : (∃ e k z l, x = .nums e k z l) ∨ ∃ e z l, x = .sl e z l) : ∃ a n cap, v = .slice a n cap /\ x.isNil = a.isNone := by
 cases h with
 | nums a n cap e k z l hn hz => exact ⟨a, n, cap, rfl, hz⟩
 | sl a n cap e z l c hn hz => exact ⟨a, n, cap, rfl, hz⟩
 | _ => simp at hx
theorem qiy {α R : Type} {op : BinOp} {xt : TypeId} {x y : T} {K : T -> Tr α} {C : CallSem} {K' : α -> Option R} {r : R} {v v' : Value}
    {B : Nat -> Prop} (hx : Rd P w A v x) (hy : Rd P w B v' y) (h : (binT P op xt x y K).go C K' = some r) :
    ∃ z u, z.scalar = true /\ (K z).go C K' = some r /\ (∀ A, Rd P w A u z) /\ ∀ ox oy, Sem.run P (do eqGuard op xt ox oy v v'; binOp op xt v v') w = .ok u w := by
  unfold binT at h
  split at h
  all_goals first
    | exact (qg h).elim
    | skip
  · obtain ⟨c, h⟩ := qv h
    cases hx; cases hy
    refine ⟨_, _, rfl, h, fun _ => .int _ _, fun _ _ => ?_⟩
    have c' : ¬ (_ : Int) < 0 := Int.not_lt.2 (of_decide_eq_true c)
    simp [eqGuard, binOp, Op.shift, c', shlI]
  · obtain ⟨c, h⟩ := qv h
    cases hx; cases hy
    refine ⟨_, _, rfl, h, fun _ => .int _ _, fun _ _ => ?_⟩
    have c' : ¬ (_ : Int) < 0 := Int.not_lt.2 (of_decide_eq_true c)
    simp [eqGuard, binOp, Op.shift, c', shrI]
    rw [Int.fdiv_eq_ediv_of_nonneg _ (Int.le_of_lt (Int.pow_pos (by decide)))]
  iterate 3 (· obtain ⟨c, h⟩ := qh h
               cases hx; cases hy
               refine ⟨_, _, rfl, h, fun _ => .int _ _, fun _ _ => ?_⟩
               simp at c; subst c; simp [eqGuard, binOp, Op.intArith, qei])
  iterate 2 (· obtain ⟨c, h⟩ := qh h
               obtain ⟨c2, h⟩ := qv h
               cases hx; cases hy
               refine ⟨_, _, rfl, h, fun _ => .int _ _, fun _ _ => ?_⟩
               simp at c c2; subst c; simp [eqGuard, binOp, Op.intDiv, c2, qei])
  iterate 4 (· obtain ⟨c, h⟩ := qh h
               cases hx; cases hy
               refine ⟨_, _, rfl, h, fun _ => .int _ _, fun _ _ => ?_⟩
               simp at c; subst c; simp [eqGuard, binOp, Op.intBits, Go.bits])
  iterate 6 (· obtain ⟨c, h⟩ := qh h
               cases hx; cases hy
               refine ⟨_, _, rfl, h, fun _ => .bool _, fun _ _ => ?_⟩
               simp at c; subst c; simp [eqGuard, binOp, Op.intCmp, qhw, bne])
  iterate 2 (· cases hx; cases hy
               refine ⟨_, _, rfl, h, fun _ => .bool _, fun _ _ => ?_⟩
               simp [eqGuard, binOp, Op.stringOp, qhJ])
  · obtain ⟨c, h⟩ := qv h
    cases hx; cases hy
    refine ⟨_, _, rfl, h, fun _ => .str _, fun _ _ => ?_⟩
    have c' := of_decide_eq_true c
    simp [eqGuard, binOp, Op.stringOp, IntKind.max, IntKind.signed, IntKind.bits]
    omega
  · obtain ⟨c, h⟩ := qh h
    cases hx; cases hy
    refine ⟨_, _, rfl, h, fun _ => .bool _, fun _ _ => ?_⟩
    simp [eqGuard, run_eql_bool _ _ _ _ (qbu c)]
  · obtain ⟨c, h⟩ := qh h
    cases hx; cases hy
    refine ⟨_, _, rfl, h, fun _ => .bool _, fun _ _ => ?_⟩
    simp [eqGuard, run_neq_bool _ _ _ _ (qbu c)]
  iterate 2 (all_goals first
    | (obtain ⟨c, h⟩ := qh h
       obtain ⟨e, he⟩ := qbt c
       have hv' := qbo rfl hy
       subst hv'
       obtain ⟨a, n, cap, hv, hz⟩ := qiq hx (by simp)
       simp only [T.isNil] at hz
       subst hv hz
       refine ⟨_, _, rfl, h, fun _ => .bool _, fun _ _ => ?_⟩
       first
       | (simp [eqGuard, Lib.run_eql_slice_nil _ _ _ _ _ _ _ _ he]; done)
       | (simp [eqGuard, run_neq_slice_nil_any _ _ _ _ _ _ _ _ he]; done))
    | skip)
end
end Go.Proofs.YthocpcfjfgnkgaaGreatRv
namespace Go.Proofs.YthocpcfjfgnkgaaGreatRv
open Go Go.RowKit
set_option linter.unusedVariables false
set_option linter.unusedSimpArgs false
section
variable {P : Program} {M : Mdl} {w : World} {A : Nat -> Prop} {S : St} {a : Act} {E : Env}
theorem Rd.any {v : Value} {x : T} (h : Rd P w A v x) (hx : x.scalar = true) (B : Nat -> Prop) : Rd P w B v x := by
 cases h <;> first
  | exact .int _ _
  | exact .bool _
  | exact .str _
  | exact .nf
  | exact .ni
  | simp [T.scalar] at hx
theorem qfz {x : T} (h : x.scalar = true) : x ≠ .bad := by cases x <;> simp_all [T.scalar]
theorem vr_s {v : Value} {x : T} (h : Rd P w A v x) (hx : x.scalar = true) : Vr P M w (V.s x) v := fun _ =>
 ⟨h.any hx _, fun _ => .scalar _ _ _ hx, fun id hid => by simp [V.s] at hid⟩
theorem qfJ {v : Value} {x : T} {g : List Id} (h : Rd P w (avoid M w g) v x) : Vr P M w (V.of x g) v := by
 unfold V.of
 cases hx : x.scalar with
 | true => exact vr_s h hx
 | false => exact fun _ => ⟨h, fun h => by simp at h, fun id hid => by simp at hid⟩
theorem qkk (t : TypeId) : Vr P M w (V.s (nilT P t)) (.slice none 0 0) := by
 unfold nilT
 split
 ·split
  ·exact fun _ => ⟨.nums none 0 0 _ _ true [] rfl rfl (by omega) (fun _ => rfl) (Nat.le_refl _) (fun j hj => by omega), fun _ => .nilN _ _ _ _, fun id hid => by simp [V.s] at hid⟩
  ·exact fun _ => ⟨.sl none 0 0 _ true [] (fun _ => undef) rfl rfl (by omega) (fun _ => rfl) (Nat.le_refl _) (fun h => by omega) (fun x hx => by simp at hx) (fun h => by omega) (fun i j hi => by omega), fun _ => .nilS _ _ _, fun id hid => by simp [V.s] at hid⟩
 ·exact fun h => (h rfl).elim
theorem qfx (t : TypeId) (v : Value) : TVr P M w (constTV P t v) v := by
 unfold constTV
 split
 ·exact vr_s (A := fun _ => True) (.int _ _) rfl
 ·exact vr_s (A := fun _ => True) (.bool _) rfl
 ·exact vr_s (A := fun _ => True) (.str _) rfl
 ·exact qkk t
 ·exact vr_s (A := fun _ => True) .nf rfl
 ·exact vr_s (A := fun _ => True) .ni rfl
 ·trivial
theorem ev_r (h : Rel P E M S a w) (t : TypeId) (x : Operand) : TVr P M w (ev P S t x) (a.eval x) := by
 cases x with
 | tmp i => exact (h.tmps i).plain
 | const v => exact qfx t v
 | global g => trivial
 | func f =>
  exact fun _ => ⟨.fn f #[] [] rfl fun i hi => by simp at hi, fun h => by simp at h, fun id hid => by simp at hid⟩
theorem unsome {t : TypeId} (h : okTy P t = true) : ∃ d i, P.underlying t = some d /\ P.info? t = some i /\ i.size = szOf P t /\ szOf P t = (cellTys P depth t).length /\ 0 < szOf P t := by
 simp only [okTy, Bool.and_eq_true, bne_iff_ne, beq_iff_eq, ne_eq] at h
 obtain ⟨⟨h1, h2⟩, h3⟩ := h
 obtain ⟨d, hd⟩ := Option.isSome_iff_exists.1 h1
 cases hi : P.info? t with
 | none => simp [Program.underlying, hi] at hd
 | some i => exact ⟨d, i, hd, rfl, by simp [szOf, hi], h2, by omega⟩
theorem run_isAgg' {t : TypeId} {d : TypeDesc} (h : P.underlying t = some d) : (Go.isAgg t).run P w = .ok (isAgg P t) w := by
 unfold Go.isAgg isAgg
 simp only [Sem.run_bind, run_underlying h, Result.andThen_ok, h]
 cases d <;> simp
theorem qQ {t : TypeId} {i : TypeInfo} (h : P.info? t = some i) : (sizeOf t).run P w = .ok (szOf P t) w := by
 simp [sizeOf, typeInfo, h, szOf]
theorem run_loadAt' {t : TypeId} (ht : okTy P t = true) {ad : Addr} {c : Nat -> Value} (hc : ∀ j, j < szOf P t -> w.cell? (ad.add j) = some (c j)) :
  (Instr.loadAt t (.pointer (some ad))).run P w = .ok (if isAgg P t = true then .agg ((List.range (szOf P t)).map c).toArray else c 0) w := by
 obtain ⟨d, i, h1, h2, h3, h4, h5⟩ := unsome ht
 have h0 := hc 0 h5
 have e0 : ad.add 0 = ad := by simp [Addr.add]
 rw [e0] at h0
 simp only [Instr.loadAt, Instr.sureAddr, loadVar, Sem.run_bind, Sem.run_pure, Result.andThen_ok, run_isAgg' h1]
 cases hagg : isAgg P t with
 | true => simp [qQ h2, run_loadCells w ad (szOf P t) c hc]
 | false => simp [run_load, h0]
theorem qR {t : TypeId} {x : T} (h : ok1 P t x = true) : x.cells = [x] /\ x ≠ .bad /\ exp1 P t x = x := by
 unfold ok1 at h
 unfold exp1
 split at h
 ·simp_all [T.cells, T.toInt]
 ·simp_all [T.cells, T.toBool]
 ·simp_all [T.cells, T.toStr]
 ·rename_i h1
  simp only [Bool.and_eq_true, beq_iff_eq] at h
  obtain ⟨rfl, h⟩ := h
  simp [T.cells, h1, h, T.isNil, T.toNums]
 ·rename_i h1
  simp only [Bool.and_eq_true, beq_iff_eq, Option.isNone_iff_eq_none] at h
  obtain ⟨rfl, h⟩ := h
  simp [T.cells, h1, h, T.isNil, T.toList]
 ·simp_all [T.cells]
 ·simp_all [T.cells]
 ·simp_all [T.cells]
 ·simp at h
theorem qz : ∀ {ts : List TypeId} {xs : List T}, oks P ts xs = true -> xs.length = ts.length /\ ∀ j t, ts[j]? = some t -> ok1 P t (xs.getD j .bad) = true
 | [], [], _ => ⟨rfl, fun j t h => by simp at h⟩
 | t :: ts, x :: xs, h => by
  simp only [oks, Bool.and_eq_true] at h
  obtain ⟨h1, h2⟩ := qz h.2
  refine ⟨by simp [h1], fun j t' hj => ?_⟩
  cases j with
  | zero => simp at hj; subst hj; exact h.1
  | succ j => simpa using h2 j t' (by simpa using hj)
 | [], _ :: _, h => by simp [oks] at h
 | _ :: _, [], h => by simp [oks] at h
theorem qaP {t : TypeId} (h : isAgg P t = false) : cellTys P depth t = [t] := by
 unfold isAgg at h
 unfold depth cellTys
 split <;> simp_all
theorem qcd {e : TypeId} {x : T} (h : okT P e x = true) : x.cells.length = (cellTys P depth e).length /\ ∀ j t, (cellTys P depth e)[j]? = some t -> ok1 P t (x.cells.getD j .bad) = true := by
 unfold okT at h
 cases hagg : isAgg P e with
 | true =>
  rw [hagg] at h
  cases x <;> simp at h
  exact qz h
 | false =>
  rw [hagg] at h
  have := qR h
  rw [qaP hagg, this.1]
  refine ⟨rfl, fun j t hj => ?_⟩
  cases j with
  | zero => simp at hj; subst hj; simpa using h
  | succ j => simp at hj
theorem qaC (g : List Id) (ys : List T) : ∀ (ts : List TypeId) (j : Nat), (expFrom P g j ys ts).length = ts.length
 | [], _ => rfl
 | _ :: ts, j => by simp [expFrom, qaC g ys ts (j + 1)]
theorem qaO (g : List Id) (ys : List T) : ∀ (ts : List TypeId) (off j : Nat) (t : TypeId), ts[j]? = some t -> (expFrom P g off ys ts).getD j V.bad = V.of (exp1 P t (ys.getD (off + j) .bad)) g
 | [], _, j, t, h => by simp at h
 | t' :: ts, off, 0, t, h => by simp at h; subst h; simp [expFrom]
 | t' :: ts, off, j + 1, t, h => by
  have := qaO g ys ts (off + 1) j t (by simpa using h)
  simp only [expFrom, List.getD_cons_succ, this]
  congr 3
  omega
theorem qas {t : TypeId} {vs : List V} {c : Nat -> Value} (hl : vs.length = szOf P t) (h : ∀ j, j < szOf P t -> Vr P M w (vs.getD j V.bad) (c j)) {tv : TV}
  (htv : formTV P t vs = some tv) :
  TVr P M w tv (if isAgg P t = true then .agg ((List.range (szOf P t)).map c).toArray else c 0) := by
 unfold formTV at htv
 cases hagg : isAgg P t with
 | true =>
  rw [hagg] at htv
  cases htv
  refine ⟨_, rfl, by simp [hl], fun i hi => ?_⟩
  have := h i (hl ▸ hi)
  simpa [List.getD_eq_getElem?_getD, hl ▸ hi] using this
 | false =>
  rw [hagg] at htv
  dsimp only at htv
  split at htv
  ·rename_i v
   cases htv
   simp at hl
   have := h 0 (by omega)
   simpa [TVr] using this
  ·simp at htv
theorem qcq {o : Option TV} {C : CallSem} {R : Type} {K : TV -> Option R} {r : R} (h : (retTV o).go C K = some r) : ∃ tv, o = some tv /\ K tv = some r := by
 cases o with
 | none => exact (qg h).elim
 | some tv => exact ⟨tv, rfl, h⟩
theorem qaV {t : TypeId} {k : IntKind} (h : intOf? P t = some k) : P.underlying t = some (.int k) := by
 unfold intOf? at h
 split at h <;> simp_all
theorem qeb {x : V} {v : Value} {i : Int} {off : Nat} {t : TypeId} {C : CallSem} {R : Type} {K : TV -> Option R} {r : R} (hx : TVr P M w (.ep x i off) v) (hbad : x.t ≠ .bad)
  (h : (elemTV P x i off t).go C K = some r) : ∃ tv u, K tv = some r /\ (Instr.loadAt t v).run P w = .ok u w /\ TVr P M w tv u /\ (isSliceTy P t = true -> TVr P M w (ptTV tv x i off) u) := by
 obtain ⟨ad, n, cap, e, hv, he, h0, hn, rfl⟩ := hx hbad
 have hrd := hv.rd
 unfold elemTV at h
 split at h
 ·rename_i e' k z l hxt
  obtain ⟨hc, h'⟩ := qh h
  clear h
  simp only [Bool.and_eq_true, beq_iff_eq] at hc
  obtain ⟨⟨h1, h2⟩, hk⟩ := hc
  subst h1
  rw [hxt] at hrd he
  subst he
  cases hrd with
  | nums a n' cap' e'' k' z' l' hl hz hm hcap h0' hcell =>
  obtain ⟨ad', e1, e2, e3⟩ := hcell i.toNat (by omega)
  cases e1
  have hund := qaV hk
  have hagg : isAgg P t = false := by simp [isAgg, hund]
  refine ⟨_, _, qj h', ?_, (vr_s (A := fun _ => True) (.int k (rdI l i)) rfl : Vr P M w _ _), fun _ => by simp only [ptTV, hxt]; exact (vr_s (A := fun _ => True) (.int k (rdI l i)) rfl : Vr P M w _ _)⟩
  simp only [Instr.loadAt, Instr.sureAddr, loadVar, Sem.run_bind, Sem.run_pure, Result.andThen_ok, run_isAgg' hund, hagg, h2, Nat.mul_one, Nat.add_zero]
  simp [run_load, e3, rdI]
 ·rename_i e' z l hxt
  obtain ⟨hc, h'⟩ := qh h
  clear h
  simp only [Bool.and_eq_true, beq_iff_eq] at hc
  obtain ⟨hts, ht⟩ := hc
  rw [hxt] at hrd he
  subst he
  cases hrd with
  | sl a n' cap' e'' z' l' c hl hz hm hcap h0' hsz hs hp hr =>
  obtain ⟨ad', e1, e2, e3⟩ := hp (by omega)
  cases e1
  have hi : i.toNat < n := by omega
  have hsz' := hsz (by omega)
  obtain ⟨d, inf, q1, q2, q3, q4, q5⟩ := unsome ht
  have hlen : off + szOf P t <= szOf P e' := by
   have := congrArg List.length hts
   simp only [List.length_take, List.length_drop] at this
   omega
  have hget : l.getD i.toNat .bad ∈ l := by
   rw [List.getD_eq_getElem?_getD, List.getElem?_eq_getElem (by omega)]
   simp
  have hok := qcd (hs _ hget)
  let cc : Nat -> Value := fun j => c (i.toNat * szOf P e' + (off + j))
  have hcells : ∀ j, j < szOf P t -> w.cell? ((ad.add (i.toNat * szOf P e' + off)).add j) = some (cc j) := by
   intro j hj
   rw [qaA, Nat.add_assoc]
   refine e3 _ ?_
   have : (i.toNat + 1) * szOf P e' <= n * szOf P e' := Nat.mul_le_mul_right _ hi
   rw [Nat.add_mul, Nat.one_mul] at this
   omega
  have hload := run_loadAt' (w := w) ht hcells
  have hvl : (expFrom P x.g off (l.getD i.toNat .bad).cells (cellTys P depth t)).length = szOf P t := by rw [qaC, q4]
  have hvr : ∀ j, j < szOf P t -> Vr P M w ((expFrom P x.g off (l.getD i.toNat .bad).cells (cellTys P depth t)).getD j V.bad) (cc j) := by
   intro j hj
   have hj' : j < (cellTys P depth t).length := by omega
   have hty : (cellTys P depth e')[off + j]? = some (cellTys P depth t)[j] := by
    have : ((List.drop off (cellTys P depth e')).take (cellTys P depth t).length)[j]? = (cellTys P depth t)[j]? := by rw [hts]
    rw [List.getElem?_take, if_pos hj', List.getElem?_drop, List.getElem?_eq_getElem hj'] at this
    exact this
   rw [qaO _ _ _ _ _ _ (List.getElem?_eq_getElem hj'), (qR (hok.2 _ _ hty)).2.2]
   exact qfJ (hr i.toNat (off + j) hi (by omega))
  obtain ⟨tv, htv, hK⟩ := qcq h'
  have hT := qas hvl hvr htv
  refine ⟨tv, _, hK, hload, hT, fun hsl => ?_⟩
  obtain ⟨e1, hund⟩ := qbt hsl
  have hagg : isAgg P t = false := by simp [isAgg, hund]
  have hone := qaP hagg
  have hsz1 : szOf P t = 1 := by rw [q4, hone]; rfl
  have hty : (cellTys P depth e')[off]? = some t := by
   have := congrArg (fun l => l[0]?) hts
   simp only [hone, List.length_singleton, List.getElem?_take, List.getElem?_drop] at this
   simpa using this
  have hex := qaO (P := P) x.g (l.getD i.toNat .bad).cells (cellTys P depth t) off 0 t (by rw [hone]; rfl)
  rw [Nat.add_zero, (qR (hok.2 _ _ hty)).2.2] at hex
  have e2 : expFrom P x.g off (l.getD i.toNat .bad).cells (cellTys P depth t) = [V.of ((l.getD i.toNat .bad).cells.getD off .bad) x.g] := by
   rw [hone] at hex ⊢
   simp only [expFrom, List.getD_cons_zero] at hex ⊢
   rw [hex]
  rw [e2] at htv
  simp only [formTV, hagg, Option.some.injEq] at htv
  subst htv
  simp only [ptTV, hxt]
  refine ⟨hT, fun _ => ⟨ad, n, cap, e', z, l, hv, hxt, h0, by omega, by omega, ?_, ?_⟩⟩
  ·have := hcells 0 (by omega)
   rw [qaA, Nat.add_zero] at this
   rw [this]
   simp [hagg]
  ·unfold V.of
   split <;> rfl
 ·exact (qg h).elim
end
end Go.Proofs.YthocpcfjfgnkgaaGreatRv
namespace Go.Proofs.YthocpcfjfgnkgaaGreatRv
open Go Go.RowKit
set_option linter.unusedVariables false
set_option linter.unusedSimpArgs false
section
variable {P : Program} {M : Mdl} {w : World} {S : St} {a : Act} {E : Env} {C : CallSem} {R : Type}
theorem qbq {b : Nat} {cs : Array Value} {ty : TypeId} {fz : Nat × Nat} (h : w.heap[b]? = some (.cells cs ty fz)) (i : Nat) : w.cell? ⟨b, i, none⟩ = cs[i]? := by
 simp [World.cell?, h]
theorem add_plain' (b o j : Nat) : (⟨b, o, none⟩ : Addr).add j = ⟨b, o + j, none⟩ := by
 unfold Addr.add
 split <;> simp_all
theorem qaI {α : Type} (l : List α) (off n j : Nat) (d : α) (h : j < n) : ((l.drop off).take n).getD j d = l.getD (off + j) d := by
 simp [List.getD_eq_getElem?_getD, List.getElem?_take, h]
theorem qea (hI : Inv P E M S w) {p : TV} {v : Value} {t : TypeId} {K : TV -> Option R} {r : R} (hp : TVr P M w p v)
  (h : (loadTV P S t p).go C K = some r) : ∃ tv u, K tv = some r /\ (Instr.loadAt t v).run P w = .ok u w /\ TVr P M w tv u := by
 unfold loadTV at h
 split at h
 ·rename_i d off
  split at h
  ·rename_i l hbox
   obtain ⟨hc, h'⟩ := qh h
   clear h
   simp only [Bool.and_eq_true, beq_iff_eq] at hc
   obtain ⟨hl, ht⟩ := hc
   obtain ⟨tv, htv, hK⟩ := qcq h'
   obtain ⟨b, hb, rfl⟩ := hp
   obtain ⟨b', hb', cs, ty, hh, hsz, hcs⟩ := hI.boxes d _ hbox
   rw [hb] at hb'
   cases hb'
   obtain ⟨dd, inf, q1, q2, q3, q4, q5⟩ := unsome ht
   have hlen : off + szOf P t <= l.length := by
    simp only [List.length_take, List.length_drop] at hl
    omega
   refine ⟨tv, _, hK, run_loadAt' ht (c := fun j => cs.getD (off + j) undef) (fun j hj => ?_), qas (by rw [hl, q4]) (fun j hj => ?_) htv⟩
   ·rw [add_plain', qbq hh, Array.getD_eq_getD_getElem?, Array.getElem?_eq_getElem (by omega)]
    rfl
   ·rw [qaI _ _ _ _ _ (by omega)]
    exact hcs (off + j) (by omega)
  ·exact (qg h).elim
 ·rename_i d m' i
  split at h
  ·rename_i k m l hbox
   obtain ⟨hc, h'⟩ := qh h
   clear h
   simp only [Bool.and_eq_true, beq_iff_eq, decide_eq_true_eq] at hc
   obtain ⟨hc, rfl⟩ := hc
   obtain ⟨b, hb, rfl, h0, h1⟩ := hp
   obtain ⟨b', hb', ty, hh, hl⟩ := hI.boxes d _ hbox
   rw [hb] at hb'
   cases hb'
   have hund := qaV hc
   have hagg : isAgg P t = false := by simp [isAgg, hund]
   refine ⟨_, _, qj h', ?_, (vr_s (A := fun _ => True) (.int k (rdI l i)) rfl : Vr P M w _ _)⟩
   have hcell : w.cell? ⟨b, i.toNat, none⟩ = some (.int k (rdI l i)) := by
    have hi : i.toNat < l.length := by omega
    rw [qbq hh]
    simp [rdI, List.getD_eq_getElem?_getD, List.getElem?_eq_getElem hi]
   simp only [Instr.loadAt, Instr.sureAddr, loadVar, Sem.run_bind, Sem.run_pure, Result.andThen_ok, run_isAgg' hund, hagg]
   simp [run_load, hcell]
  ·exact (qg h).elim
 ·rename_i x i off
  by_cases hb : x.t = .bad
  ·simp [elemTV, hb, Tr.go] at h
  ·obtain ⟨tv, u, h1, h2, h3, _⟩ := qeb hp hb h
   exact ⟨tv, u, h1, h2, h3⟩
 ·rename_i x off
  split at h
  ·rename_i l hxt
   obtain ⟨hc, h'⟩ := qh h
   clear h
   simp only [Bool.and_eq_true] at hc
   obtain ⟨hok, ht⟩ := hc
   obtain ⟨tv, htv, hK⟩ := qcq h'
   obtain ⟨ad, hx, rfl⟩ := hp (by rw [hxt]; simp)
   obtain ⟨dd, inf, q1, q2, q3, q4, q5⟩ := unsome ht
   have hrd := hx.rd
   rw [hxt] at hrd
   cases hrd with
   | ptr _ _ c hA hc hr =>
   have hoks := qz hok
   have hlen : off + szOf P t <= l.length := by
    have := hoks.1
    simp only [List.length_take, List.length_drop] at this
    omega
   refine ⟨tv, _, hK, run_loadAt' ht (c := fun j => c (off + j)) (fun j hj => ?_), qas (by rw [List.length_map, hoks.1, q4]) (fun j hj => ?_) htv⟩
   ·rw [qaA]
    exact hc _ (by omega)
   ·have e : ((List.map (fun y => V.of y x.g) ((List.drop off l).take (cellTys P depth t).length)).getD j V.bad) = V.of (l.getD (off + j) .bad) x.g := by
     simp [List.getD_eq_getElem?_getD, List.getElem?_take, List.getElem?_drop, show j < (cellTys P depth t).length by omega, List.getElem?_eq_getElem (show off + j < l.length by omega)]
    rw [e]
    exact qfJ (hr _ (by omega))
  ·exact (qg h).elim
 ·exact (qg h).elim
end
end Go.Proofs.YthocpcfjfgnkgaaGreatRv
namespace Go.Proofs.YthocpcfjfgnkgaaGreatRv
open Go Go.RowKit
set_option linter.unusedVariables false
set_option linter.unusedSimpArgs false
section
variable {P : Program} {M : Mdl} {w : World} {S : St} {a : Act} {E : Env} {C : CallSem} {R : Type}
def Still (P : Program) (M : Mdl) (w : World) (a : Act) (o : Oper) (K : TV -> Option R) (r : R) : Prop :=
 ∃ tv v, K tv = some r /\ (execOp a.eval o).run P w = .ok (.value v) w /\ TVr P M w tv v
theorem qo {s : Sem Value} {v : Value} (h : s.run P w = .ok v w) : Sem.run P (do pure (Next.value (<- s))) w = .ok (.value v) w := by
 rw [Sem.run_bind, h]
 rfl
theorem qgk {us vs : Array Value} : ∀ (fs : List Field) (i : Nat) (l m : List V), eqFs P i fs l m = true -> (∀ j, j < l.length -> Vr P M w (l.getD j V.bad) (us.getD (i + j) undef)) -> (∀ j, j < m.length -> Vr P M w (m.getD j V.bad) (vs.getD (i + j) undef)) ->
  i + l.length <= us.size -> i + m.length <= vs.size -> (Op.eqFields 9999 us vs fs).run P w = .ok (eqVal l m) w
 | [], i, [], [], h, _, _, _, _ => by simp [Op.eqFields, eqVal]
 | f :: fs, i, x :: xs, y :: ys, h, hx, hy, h1, h2 => by
  simp only [eqFs, Bool.and_eq_true, bne_iff_ne, ne_eq, beq_iff_eq] at h
  obtain ⟨⟨⟨hn, ho⟩, hk⟩, hr⟩ := h
  have ih := qgk fs (i + 1) xs ys hr (fun j hj => by have := hx (j + 1) (by simpa using hj); rw [List.getD_cons_succ] at this; rwa [show i + 1 + j = i + (j + 1) by omega]) (fun j hj => by have := hy (j + 1) (by simpa using hj); rw [List.getD_cons_succ] at this; rwa [show i + 1 + j = i + (j + 1) by omega]) (by simp at h1; omega) (by simp at h2; omega)
  split at hk
  ·rename_i k k1 n1 k2 n2 hund hxt hyt
   simp only [Bool.and_eq_true, beq_iff_eq] at hk
   obtain ⟨rfl, rfl⟩ := hk
   have hx0 := hx 0 (by simp)
   have hy0 := hy 0 (by simp)
   simp only [List.getD_cons_zero, Nat.add_zero] at hx0 hy0
   have rx := (hx0 (by rw [hxt]; simp)).rd
   have ry := (hy0 (by rw [hyt]; simp)).rd
   rw [hxt] at rx
   rw [hyt] at ry
   have hagg : isAgg P f.type = false := by simp [isAgg, hund]
   simp at h1 h2
   have ex : us[i]? = some (.int k2 n1) := by
    rw [Array.getD_eq_getD_getElem?, Array.getElem?_eq_getElem (by omega)] at rx
    rw [Array.getElem?_eq_getElem (by omega)]
    generalize us[i] = q at rx
    simp at rx
    cases rx
    rfl
   have ey : vs[i]? = some (.int k2 n2) := by
    rw [Array.getD_eq_getD_getElem?, Array.getElem?_eq_getElem (by omega)] at ry
    rw [Array.getElem?_eq_getElem (by omega)]
    generalize vs[i] = q at ry
    simp at ry
    cases ry
    rfl
   have px : (part f.type us f.offset).run P w = .ok (.int k2 n1) w := by
    simp only [part, Sem.run_bind, run_isAgg' hund, hagg, Result.andThen_ok, ho, ex]
    simp
   have py : (part f.type vs f.offset).run P w = .ok (.int k2 n2) w := by
    simp only [part, Sem.run_bind, run_isAgg' hund, hagg, Result.andThen_ok, ho, ey]
    simp
   simp only [Op.eqFields, if_pos hn, Sem.run_bind, px, py, Result.andThen_ok, run_equalIn_int (P := P) w 9998 f.type k2 k2 n1 n2 hund, eqVal, hxt, hyt]
   by_cases hq : n1 = n2
   ·simp [hq, ih]
   ·simp [hq]
  ·simp at hk
 | [], _, [], _ :: _, h, _, _, _, _ => by simp [eqFs] at h
 | [], _, _ :: _, _, h, _, _, _, _ => by simp [eqFs] at h
 | _ :: _, _, [], _, h, _, _, _, _ => by simp [eqFs] at h
 | _ :: _, _, _ :: _, [], h, _, _, _, _ => by simp [eqFs] at h
theorem qbH {t : TypeId} (h : isFaceTy P t = true) : ∃ ms, P.underlying t = some (.interface ms) := by
 unfold isFaceTy at h
 split at h <;> simp_all
theorem qdn (w : World) {t : TypeId} {ms : Array (String × TypeId)} (ht : P.underlying t = some (.interface ms)) (d : Nat) : (Op.equalIn (d + 1) t .nilIface .nilIface).run P w = .ok true w := by
 simp [Op.equalIn, run_underlying ht]
theorem qhs (w : World) {t : TypeId} {ms : Array (String × TypeId)} (ht : P.underlying t = some (.interface ms)) : (binOp .neq t .nilIface .nilIface).run P w = .ok (.bool false) w := by
 simp only [binOp]
 simp [Op.equal, Op.maxDepth, qdn w ht 9999]
theorem qhE (w : World) {t : TypeId} {ms : Array (String × TypeId)} (ht : P.underlying t = some (.interface ms)) : (binOp .eql t .nilIface .nilIface).run P w = .ok (.bool true) w := by
 simp only [binOp]
 simp [Op.equal, Op.maxDepth, qdn w ht 9999]
theorem qiK {o : Oper} {op : BinOp} {xt yt : TypeId} {x y : Operand} (ho : o.op = .binOp op xt x y yt) (hR : Rel P E M S a w) {K : TV -> Option R} {r : R}
  (h : (quiet P S o).go C K = some r) : Still P M w a o K r := by
 unfold quiet at h
 simp only [ho] at h
 have hx := ev_r hR xt x
 have hy := ev_r hR xt y
 split at h
 ·rename_i va vb ha hb
  rw [ha] at hx
  rw [hb] at hy
  have e : execOp a.eval o = (do pure (Next.value (<- (do eqGuard op xt x y (a.eval x) (a.eval y); binOp op xt (a.eval x) (a.eval y))))) := by simp only [execOp, ho]
  split at h
  ·rename_i hxt hyt
   have hx' := (hx (by rw [hxt]; simp)).rd
   have hy' := (hy (by rw [hyt]; simp)).rd
   rw [hxt] at hx'
   rw [hyt] at hy'
   cases hcx : y with
   | const cv =>
    generalize a.eval x = v1 at *
    generalize a.eval y = v2 at *
    cases hx'
    cases hy'
    unfold nilT2 at h
    split at h
    ·obtain ⟨c, h1⟩ := qh h
     simp only [Bool.and_eq_true] at c
     obtain ⟨ms, hms⟩ := qbH c.1
     refine ⟨_, .bool true, qj h1, ?_, vr_s (A := fun _ => True) (.bool _) rfl⟩
     rw [e, hcx, eqGuard_nil_constR]
     exact qo (by simpa using qhE w hms)
    ·obtain ⟨c, h1⟩ := qh h
     simp only [Bool.and_eq_true] at c
     obtain ⟨ms, hms⟩ := qbH c.1
     refine ⟨_, .bool false, qj h1, ?_, vr_s (A := fun _ => True) (.bool _) rfl⟩
     rw [e, hcx, eqGuard_nil_constR]
     exact qo (by simpa using qhs w hms)
    ·exact (qg h).elim
   | _ =>
    exfalso
    unfold nilT2 at h
    rw [hcx] at h
    split at h
    ·obtain ⟨c, h1⟩ := qh h
     simp [isConst] at c
    ·obtain ⟨c, h1⟩ := qh h
     simp [isConst] at c
    ·exact (qg h).elim
  ·have hxb : va.t ≠ .bad := fun e => by simp [binT, e, Tr.go] at h
   have hyb : vb.t ≠ .bad := fun e => by
    cases hv : va.t <;> simp [binT, e, hv, Tr.go] at h
   obtain ⟨z, u, hz, hK, hrd, hrun⟩ := qiy (hx hxb).rd (hy hyb).rd h
   refine ⟨_, u, qj hK, ?_, vr_s (hrd fun _ => True) hz⟩
   rw [e]
   exact qo (hrun x y)
 ·rename_i l m ha hb
  rw [ha] at hx
  rw [hb] at hy
  split at h
  ·rename_i fs hund
   obtain ⟨c, h1⟩ := qh h
   clear h
   simp only [Bool.and_eq_true, Bool.not_eq_true'] at c
   obtain ⟨us, hu, hul, hur⟩ := hx
   obtain ⟨vs, hv, hvl, hvr⟩ := hy
   have hfs : P.fieldsOf xt = fs := by simp [Program.fieldsOf, hund]
   have heq : (Op.equalIn 10000 xt (.agg us) (.agg vs)).run P w = .ok (eqVal l m) w := by
    rw [run_equalIn_struct (P := P) w 9999 xt us vs (by rw [hfs]; exact hund) c.1.2, hfs]
    exact qgk fs.toList 0 l m c.1.1 (fun j hj => by simpa using hur j hj) (fun j hj => by simpa using hvr j hj) (by omega) (by omega)
   have e : execOp a.eval o = (do pure (Next.value (<- (do eqGuard op xt x y (a.eval x) (a.eval y); binOp op xt (a.eval x) (a.eval y))))) := by simp only [execOp, ho]
   split at h1
   ·refine ⟨_, .bool (eqVal l m), qj h1, ?_, vr_s (A := fun _ => True) (.bool _) rfl⟩
    rw [e, hu, hv]
    exact qo (by simp only [Sem.run_bind, run_eqGuard_agg (P := P) w .eql xt x y us vs c.2, Result.andThen_ok, run_eql_struct, heq])
   ·refine ⟨_, .bool (!eqVal l m), qj h1, ?_, vr_s (A := fun _ => True) (.bool _) rfl⟩
    rw [e, hu, hv]
    exact qo (by simp only [Sem.run_bind, run_eqGuard_agg (P := P) w .neq xt x y us vs c.2, Result.andThen_ok, run_neq_struct, heq])
   ·exact (qg h1).elim
  ·exact (qg h).elim
 ·exact (qg h).elim
theorem qey {o : Oper} {x : Operand} (ho : o.op = .move x ∨ o.op = .assign x) (hR : Rel P E M S a w) {K : TV -> Option R} {r : R}
  (h : (quiet P S o).go C K = some r) : Still P M w a o K r := by
 have hx := ev_r hR o.type x
 rcases ho with ho | ho <;>
 ·unfold quiet at h
  simp only [ho] at h
  exact ⟨_, _, qj h, by simp only [execOp, ho]; rfl, hx⟩
theorem qdf {v : Value} {x : V} {b : Bool} (h : Vr P M w x v) (hx : x.t = .bool b) : v = .bool b := by
 have := (h (by rw [hx]; simp)).rd
 rw [hx] at this
 exact this.bool_inv
theorem qy {v : Value} {x : V} {k : IntKind} {n : Int} (h : Vr P M w x v) (hx : x.t = .int k n) : v = .int k n := by
 have := (h (by rw [hx]; simp)).rd
 rw [hx] at this
 exact this.int_inv
theorem qeC {v : Value} {x : V} {s : ByteArray} (h : Vr P M w x v) (hx : x.t = .str s) : v = .string s := by
 have := (h (by rw [hx]; simp)).rd
 rw [hx] at this
 exact this.str_inv
theorem qhy {o : Oper} {c x y : Operand} (ho : o.op = .pick c x y) (hR : Rel P E M S a w) {K : TV -> Option R} {r : R}
  (h : (quiet P S o).go C K = some r) : Still P M w a o K r := by
 unfold quiet at h
 simp only [ho] at h
 have hc := ev_r hR 0 c
 have hx := ev_r hR o.type x
 have hy := ev_r hR o.type y
 split at h
 ·rename_i vc e
  rw [e] at hc
  split at h
  ·rename_i b eb
   have hv := qdf hc eb
   cases b with
   | true => exact ⟨_, _, h, by simp [execOp, ho, hv, asBool], hx⟩
   | false => exact ⟨_, _, h, by simp [execOp, ho, hv, asBool], hy⟩
  ·exact (qg h).elim
 ·exact (qg h).elim
theorem qja {o : Oper} {op : UnOp} {xt : TypeId} {x : Operand} (ho : o.op = .unOp op xt x) (hR : Rel P E M S a w) {K : TV -> Option R} {r : R}
  (h : (quiet P S o).go C K = some r) : Still P M w a o K r := by
 unfold quiet at h
 simp only [ho] at h
 have hx := ev_r hR 0 x
 split at h
 ·rename_i va e
  rw [e] at hx
  rw [qcg] at h
  unfold unT at h
  split at h
  ·rename_i b eb
   have hv := qdf hx eb
   exact ⟨_, _, h, by simp [execOp, ho, hv, Op.unary], (vr_s (A := fun _ => True) (.bool _) rfl : Vr P M w _ _)⟩
  ·rename_i k n eb
   have hv := qy hx eb
   exact ⟨_, _, h, by simp [execOp, ho, hv, Op.unary, Op.intArith, qei], (vr_s (A := fun _ => True) (.int _ _) rfl : Vr P M w _ _)⟩
  ·exact (qg h).elim
 ·exact (qg h).elim
theorem qfC {o : Oper} {x : Operand} {i : Nat} (ho : o.op = .extract x i) (hR : Rel P E M S a w) {K : TV -> Option R} {r : R}
  (h : (quiet P S o).go C K = some r) : Still P M w a o K r := by
 unfold quiet at h
 simp only [ho] at h
 have hx := ev_r hR 0 x
 split at h
 ·rename_i l e
  rw [e] at hx
  obtain ⟨vs, hv, hl, hc⟩ := hx
  split at h
  ·rename_i c ec
   have hi : i < l.length := (List.getElem?_eq_some_iff.1 ec).1
   have hci := hc i hi
   have eg : l.getD i (true, []) = c := by rw [List.getD_eq_getElem?_getD, ec]; rfl
   rw [eg] at hci
   have hvi : vs[i]? = some (vs.getD i undef) := by
    rw [Array.getD_eq_getD_getElem?, Array.getElem?_eq_getElem (by omega)]
    rfl
   refine ⟨_, _, h, by simp only [execOp, ho, hv, Instr.extract, hvi]; rfl, ?_⟩
   obtain ⟨b, cl⟩ := c
   cases b with
   | true => exact hci
   | false =>
    match cl, hci with
    | [], _ => trivial
    | [y], hci => exact hci
    | _ :: _ :: _, _ => trivial
  ·exact (qg h).elim
 ·exact (qg h).elim
theorem qbO {s : TypeId} {f off : Nat} {t : TypeId} (h : fieldOf P s f = some (off, t)) : ∃ fs fd, P.underlying s = some (.struct fs) /\ fs[f]? = some fd /\ fd.offset = off /\ fd.type = t /\ szOf P t ≠ 0 := by
 unfold fieldOf at h
 split at h
 ·rename_i fs hs
  split at h
  ·rename_i fd hfd
   cases hz : (szOf P fd.type == 0) with
   | true => simp [hz] at h
   | false =>
    simp [hz] at h
    obtain ⟨rfl, rfl⟩ := h
    exact ⟨fs, fd, hs, hfd, rfl, rfl, by simpa using hz⟩
  ·simp at h
 ·simp at h
theorem run_fieldAt' {s : TypeId} {f off : Nat} {t : TypeId} (h : fieldOf P s f = some (off, t)) (ad : Addr) : (Instr.fieldAt s (.pointer (some ad)) f).run P w = .ok (.pointer (some (ad.add off))) w := by
 obtain ⟨fs, fd, h1, h2, h3, h4, h5⟩ := qbO h
 subst h3 h4
 have hi : ∃ i, P.info? fd.type = some i := by
  cases hi : P.info? fd.type with
  | none => simp [szOf, hi] at h5
  | some i => exact ⟨i, rfl⟩
 obtain ⟨i, hi⟩ := hi
 simp [Instr.fieldAt, run_underlying h1, h2, Instr.sureAddr, fieldPlace, qQ hi, h5]
theorem qbp {x : T} (h : (!x.isBad) = true) : x ≠ .bad := by cases x <;> simp_all [T.isBad]
theorem qeD {o : Oper} {s : TypeId} {x : Operand} {f : Nat} (ho : o.op = .fieldAddr s x f) (hR : Rel P E M S a w) {K : TV -> Option R} {r : R}
  (h : (quiet P S o).go C K = some r) : Still P M w a o K r := by
 unfold quiet at h
 simp only [ho] at h
 have hx := ev_r hR 0 x
 split at h
 ·rename_i d off o' t' e1 e2
  rw [e1] at hx
  obtain ⟨b, hb, hv⟩ := hx
  refine ⟨_, _, qj h, by simp only [execOp, ho, hv]; exact qo (run_fieldAt' e2 _), b, hb, ?_⟩
  rw [add_plain']
 ·rename_i y i off o' t' e1 e2
  rw [e1] at hx
  obtain ⟨hc, h'⟩ := qh h
  obtain ⟨ad, n, cap, e, q1, q2, q3, q4, hv⟩ := hx (qbp hc)
  refine ⟨_, _, qj h', by simp only [execOp, ho, hv]; exact qo (run_fieldAt' e2 _), fun _ => ⟨ad, n, cap, e, q1, q2, q3, q4, ?_⟩⟩
  rw [qaA, Nat.add_assoc]
 ·rename_i y off o' t' e1 e2
  rw [e1] at hx
  obtain ⟨hc, h'⟩ := qh h
  obtain ⟨ad, q1, hv⟩ := hx (qbp hc)
  refine ⟨_, _, qj h', by simp only [execOp, ho, hv]; exact qo (run_fieldAt' e2 _), fun _ => ⟨ad, q1, ?_⟩⟩
  rw [qaA]
 ·exact (qg h).elim
theorem qeN {o : Oper} {x : Operand} (ho : o.op = .nilCheck x) (hR : Rel P E M S a w) {K : TV -> Option R} {r : R}
  (h : (quiet P S o).go C K = some r) : Still P M w a o K r := by
 unfold quiet at h
 simp only [ho] at h
 have hx := ev_r hR 0 x
 split at h
 ·rename_i d off e
  rw [e] at hx
  obtain ⟨b, hb, hv⟩ := hx
  exact ⟨_, _, qj h, by simp only [execOp, ho, hv]; rfl, b, hb, rfl⟩
 ·rename_i y i off e
  rw [e] at hx
  obtain ⟨hc, h'⟩ := qh h
  obtain ⟨ad, n, cap, e, q1, q2, q3, q4, hv⟩ := hx (qbp hc)
  exact ⟨_, _, qj h', by simp only [execOp, ho, hv]; rfl, fun _ => ⟨ad, n, cap, e, q1, q2, q3, q4, rfl⟩⟩
 ·rename_i y off e
  rw [e] at hx
  obtain ⟨hc, h'⟩ := qh h
  obtain ⟨ad, q1, hv⟩ := hx (qbp hc)
  exact ⟨_, _, qj h', by simp only [execOp, ho, hv]; rfl, fun _ => ⟨ad, q1, rfl⟩⟩
 ·exact (qg h).elim
theorem qah {A : Nat -> Prop} {v : Value} {x : T} {n : Nat} (h : Rd P w A v x) (hn : lenT x = some n) : ∃ A' cap, v = .slice A' n cap /\ (0 < n -> ∃ ad, A' = some ad) := by
 unfold lenT at hn
 split at hn
 ·cases h with
  | nums a n' cap e k z l hl hz hm hcap h0 hc =>
  simp at hn
  subst hn
  refine ⟨a, cap, by rw [hl], fun hp => ?_⟩
  obtain ⟨ad, e, _⟩ := hc 0 (by omega)
  exact ⟨ad, e⟩
 ·cases h with
  | sl a n' cap e z l c hl hz hm hcap h0 hsz hs hp hr =>
  simp at hn
  subst hn
  refine ⟨a, cap, by rw [hl], fun hp' => ?_⟩
  obtain ⟨ad, e, _⟩ := hp (by omega)
  exact ⟨ad, e⟩
 ·simp at hn
theorem qez {o : Oper} {t : TypeId} {x i : Operand} (ho : o.op = .indexAddr t x i) (hR : Rel P E M S a w) {K : TV -> Option R} {r : R}
  (h : (quiet P S o).go C K = some r) : Still P M w a o K r := by
 unfold quiet at h
 simp only [ho] at h
 have hx := ev_r hR t x
 have hi := ev_r hR 0 i
 split at h
 ·rename_i va vb e1 e2
  rw [e1] at hx
  rw [e2] at hi
  split at h
  ·rename_i el n k j hund hlen hint
   obtain ⟨c0, h⟩ := qh h
   simp only [Bool.and_eq_true, beq_iff_eq, bne_iff_ne, ne_eq] at c0
   obtain ⟨c0, c3⟩ := c0
   obtain ⟨c1, h⟩ := qv h
   obtain ⟨c2, h⟩ := qv h
   have c1 := of_decide_eq_true c1
   have c2 := of_decide_eq_true c2
   have hj := qy hi hint
   have hne : va.t ≠ .bad := fun e => by simp [lenT, e] at hlen
   have hv := hx hne
   obtain ⟨A', cap, hval, hsome⟩ := qah hv.rd hlen
   obtain ⟨ad, rfl⟩ := hsome (by omega)
   have hinf : ∃ q, P.info? el = some q := by
    cases q : P.info? el with
    | none => simp [szOf, q] at c3
    | some q' => exact ⟨q', rfl⟩
   obtain ⟨q, hq⟩ := hinf
   refine ⟨_, _, qj h, ?_, fun _ => ⟨ad, n, cap, el, hval ▸ hv, ?_, c1, c2, rfl⟩⟩
   ·simp only [execOp, ho, hval, hj]
    refine qo ?_
    simp [Instr.indexAt, asIntOf, run_underlying hund, c1, c2, qQ hq]
   ·unfold elOf at c0
    split at c0 <;> simp_all
  ·exact (qg h).elim
 ·rename_i d vb e1 e2
  rw [e1] at hx
  rw [e2] at hi
  split at h
  ·rename_i m el k m' l kk j hund hbox hint
   obtain ⟨c0, h⟩ := qh h
   obtain ⟨c1, h⟩ := qv h
   obtain ⟨c2, h⟩ := qv h
   have c1 := of_decide_eq_true c1
   have c2 := of_decide_eq_true c2
   simp only [Bool.and_eq_true, beq_iff_eq, decide_eq_true_eq] at c0
   obtain ⟨⟨c0, c3⟩, c4⟩ := c0
   have hj := qy hi hint
   obtain ⟨b, hb, hv⟩ := hx
   have hinf : ∃ q, P.info? el = some q := by
    cases q : P.info? el with
    | none => simp [szOf, q] at c0
    | some q' => exact ⟨q', rfl⟩
   obtain ⟨q, hq⟩ := hinf
   refine ⟨_, _, qj h, ?_, b, hb, rfl, c1, c2⟩
   simp only [execOp, ho, hv, hj]
   refine qo ?_
   simp [Instr.indexAt, asIntOf, run_underlying hund, Instr.sureAddr, c1, c2, qQ hq, c0, add_plain']
  ·exact (qg h).elim
 ·exact (qg h).elim
theorem qgC {o : Oper} {t : TypeId} {x i : Operand} (ho : o.op = .index t x i) (hR : Rel P E M S a w) {K : TV -> Option R} {r : R}
  (h : (quiet P S o).go C K = some r) : Still P M w a o K r := by
 unfold quiet at h
 simp only [ho] at h
 have hx := ev_r hR t x
 have hi := ev_r hR 0 i
 split at h
 ·rename_i va vb e1 e2
  rw [e1] at hx
  rw [e2] at hi
  split at h
  ·rename_i s k j hund hs hint
   obtain ⟨c1, h⟩ := qv h
   obtain ⟨c2, h⟩ := qv h
   have c1 := of_decide_eq_true c1
   have c2 := of_decide_eq_true c2
   have hj := qy hi hint
   have hv := qeC hx hs
   have hlt : j.toNat < s.size := by omega
   refine ⟨_, _, qj h, ?_, (vr_s (A := fun _ => True) (.int _ _) rfl : Vr P M w _ _)⟩
   simp only [execOp, ho, hv, hj]
   refine qo ?_
   have hg : s[j.toNat]? = some s[j.toNat] := by simp [hlt]
   simp [Instr.index, asIntOf, run_underlying hund, c1, hg, btI, hlt]
  ·exact (qg h).elim
 ·exact (qg h).elim
theorem qhL {o : Oper} {t : TypeId} {x : Operand} (ho : o.op = .load t x) (hR : Rel P E M S a w) {K : TV -> Option R} {r : R}
  (h : (quiet P S o).go C K = some r) : Still P M w a o K r := by
 unfold quiet at h
 simp only [ho] at h
 have hx := ev_r hR 0 x
 have plain : (loadTV P S t (ev P S 0 x)).go C K = some r -> Still P M w a o K r := fun h => by
  obtain ⟨tv, u, hK, hrun, hr⟩ := qea hR.inv hx h
  exact ⟨tv, u, hK, by simp only [execOp, ho]; exact qo hrun, hr⟩
 split at h
 ·rename_i y i off e
  split at h
  ·rename_i hc
   simp only [Bool.and_eq_true] at hc
   rw [e] at hx
   have hb : y.t ≠ .bad := fun hb => by
    rw [qcg] at h
    unfold elemTV at h
    rw [hb] at h
    exact qg h
   rw [qcg] at h
   obtain ⟨tv, u, hK, hrun, _, hr⟩ := qeb hx hb h
   exact ⟨_, u, qj hK, by simp only [execOp, ho]; exact qo hrun, hr hc.2⟩
  ·refine plain ?_
   rw [e]
   exact h
 ·rename_i hne
  exact plain (by
   have : (match ev P S 0 x with
    | .ep x i off => (match x.own.isSome && x.sep && isSliceTy P t with
     | true => (elemTV P x i off t).bind fun tv => .ret (ptTV tv x i off)
     | false => elemTV P x i off t)
    | p => loadTV P S t p) = loadTV P S t (ev P S 0 x) := by
    split
    ·rename_i e
     exact (hne _ _ _ e).elim
    ·rfl
   exact h)
theorem qM {o : Oper} {b : Builtin} {args : Array Operand} {ts : Array TypeId} (ho : o.op = .call { callee := .builtin b, args := args, argTypes := ts }) (ρ : Operand -> Value) :
  execOp ρ o = builtin b ts o.type (args.map fun | .const _ => true | _ => false) (args.map ρ) := by
 unfold execOp
 rw [ho]
 rfl
theorem qir {o : Oper} {args : Array Operand} {ts : Array TypeId} (ho : o.op = .call { callee := .builtin .len, args := args, argTypes := ts }) (hR : Rel P E M S a w) {K : TV -> Option R} {r : R}
  (h : (quiet P S o).go C K = some r) : Still P M w a o K r := by
 unfold quiet at h
 simp only [ho] at h
 split at h
 ·rename_i x hargs
  obtain ⟨c0, h⟩ := qh h
  have hx := ev_r hR (ts.getD 0 0) x
  have ea : args = #[x] := by
   cases args
   simp at hargs
   rw [hargs]
  obtain ⟨t, ets⟩ : ∃ t, ts[0]? = some t := by
   have := of_decide_eq_true c0
   exact ⟨ts[0], by simp [this]⟩
  have eg : ts.getD 0 0 = t := by rw [Array.getD_eq_getD_getElem?, ets]; rfl
  rw [eg] at h hx
  split at h
  ·rename_i va e
   rw [e] at hx
   split at h
   ·rename_i s hund hs
    have hv := qeC hx hs
    refine ⟨_, _, qj h, ?_, (vr_s (A := fun _ => True) (.int _ _) rfl : Vr P M w _ _)⟩
    rw [qM ho, ea]
    refine qo ?_
    simp [Builtin.len_, ets, hv, run_underlying hund, goInt]
   ·rename_i el hund hs
    obtain ⟨A', cap, hv, _⟩ := qah (n := _) (hx (by rw [hs]; simp)).rd (by rw [hs]; rfl)
    refine ⟨_, _, qj h, ?_, (vr_s (A := fun _ => True) (.int _ _) rfl : Vr P M w _ _)⟩
    rw [qM ho, ea]
    refine qo ?_
    simp [Builtin.len_, ets, hv, run_underlying hund, goInt]
   ·rename_i el hund hs
    obtain ⟨A', cap, hv, _⟩ := qah (n := _) (hx (by rw [hs]; simp)).rd (by rw [hs]; rfl)
    refine ⟨_, _, qj h, ?_, (vr_s (A := fun _ => True) (.int _ _) rfl : Vr P M w _ _)⟩
    rw [qM ho, ea]
    refine qo ?_
    simp [Builtin.len_, ets, hv, run_underlying hund, goInt]
   ·exact (qg h).elim
  ·exact (qg h).elim
 ·exact (qg h).elim
theorem qiL {o : Oper} {args : Array Operand} {ts : Array TypeId} (ho : o.op = .call { callee := .builtin .min, args := args, argTypes := ts }) (hR : Rel P E M S a w) {K : TV -> Option R} {r : R}
  (h : (quiet P S o).go C K = some r) : Still P M w a o K r := by
 unfold quiet at h
 simp only [ho] at h
 split at h
 ·rename_i x y hargs
  have hx := ev_r hR 0 x
  have hy := ev_r hR 0 y
  have ea : args = #[x, y] := by
   cases args
   simp at hargs
   rw [hargs]
  split at h
  ·rename_i va vb e1 e2
   rw [e1] at hx
   rw [e2] at hy
   split at h
   ·rename_i k m k' n h1 h2
    obtain ⟨c, h'⟩ := qh h
    clear h
    simp only [beq_iff_eq] at c
    subst c
    refine ⟨_, _, qj h', ?_, (vr_s (A := fun _ => True) (.int _ _) rfl : Vr P M w _ _)⟩
    rw [qM ho, ea]
    refine qo ?_
    simp [qy hx h1, qy hy h2, run_min_int2, mnI]
   ·exact (qg h).elim
  ·exact (qg h).elim
 ·exact (qg h).elim
theorem qil {o : Oper} {args : Array Operand} {ts : Array TypeId} (ho : o.op = .call { callee := .builtin .max, args := args, argTypes := ts }) (hR : Rel P E M S a w) {K : TV -> Option R} {r : R}
  (h : (quiet P S o).go C K = some r) : Still P M w a o K r := by
 unfold quiet at h
 simp only [ho] at h
 split at h
 ·rename_i x y hargs
  have hx := ev_r hR 0 x
  have hy := ev_r hR 0 y
  have ea : args = #[x, y] := by
   cases args
   simp at hargs
   rw [hargs]
  split at h
  ·rename_i va vb e1 e2
   rw [e1] at hx
   rw [e2] at hy
   split at h
   ·rename_i k m k' n h1 h2
    obtain ⟨c, h'⟩ := qh h
    clear h
    simp only [beq_iff_eq] at c
    subst c
    refine ⟨_, _, qj h', ?_, (vr_s (A := fun _ => True) (.int _ _) rfl : Vr P M w _ _)⟩
    rw [qM ho, ea]
    refine qo ?_
    simp [qy hx h1, qy hy h2, run_max_int2, mxI]
   ·exact (qg h).elim
  ·exact (qg h).elim
 ·exact (qg h).elim
theorem Rd.cut_nums {A : Nat -> Prop} {ad : Option Addr} {n cap : Nat} {e : TypeId} {k : IntKind} {z : Bool} {l : List Int} (h : Rd P w A (.slice ad n cap) (.nums e k z l)) (hsz : szOf P e = 1) {lo hi : Nat} (h1 : lo <= hi) (h2 : hi <= n) :
  Rd P w A (.slice (if cap = lo then ad else ad.map (·.add (lo * szOf P e))) (hi - lo) (cap - lo)) (.nums e k z ((l.take hi).drop lo)) := by
 cases h with
 | nums _ _ _ _ _ _ _ hn hz hm hcap hnc hc =>
 have hiso : (if cap = lo then ad else ad.map (·.add (lo * szOf P e))).isNone = ad.isNone := by split <;> simp
 refine .nums _ _ _ _ _ _ _ (by simp; omega) (by rw [hiso]; exact hz) (by omega) (fun hno => ?_) (by omega) (fun j hj => ?_)
 ·have : ad = none := by
   have e : (if cap = lo then ad else ad.map (·.add (lo * szOf P e))).isNone = true := by rw [hno]; rfl
   rw [hiso] at e
   simpa using e
  have := hcap this
  omega
 ·obtain ⟨b, hb, hA, hcell⟩ := hc (lo + j) (by omega)
  subst hb
  have hne : cap ≠ lo := by omega
  refine ⟨b.add (lo * szOf P e), by simp [hne], by rw [qae]; exact hA, ?_⟩
  rw [qaA, hsz, Nat.mul_one, hcell, List.getD_eq_getElem?_getD, List.getD_eq_getElem?_getD, List.getElem?_drop, List.getElem?_take, if_pos (by omega)]
theorem Rd.cut_sl {A : Nat -> Prop} {ad : Option Addr} {n cap : Nat} {e : TypeId} {z : Bool} {l : List T} (h : Rd P w A (.slice ad n cap) (.sl e z l)) {lo hi : Nat} (h1 : lo <= hi) (h2 : hi <= n) :
  Rd P w A (.slice (if cap = lo then ad else ad.map (·.add (lo * szOf P e))) (hi - lo) (cap - lo)) (.sl e z ((l.take hi).drop lo)) := by
 cases h with
 | sl _ _ _ _ _ _ c hn hz hm hcap hnc hsz hs hp hr =>
 have hiso : (if cap = lo then ad else ad.map (·.add (lo * szOf P e))).isNone = ad.isNone := by split <;> simp
 refine .sl _ _ _ _ _ _ (fun j => c (lo * szOf P e + j)) (by simp; omega) (by rw [hiso]; exact hz) (by omega) (fun hno => ?_) (by omega) (fun _ => hsz (by omega))
  (fun x hx => hs x (List.mem_of_mem_take (List.mem_of_mem_drop hx))) (fun hj => ?_) (fun i j hii hj => ?_)
 ·have : ad = none := by
   have e : (if cap = lo then ad else ad.map (·.add (lo * szOf P e))).isNone = true := by rw [hno]; rfl
   rw [hiso] at e
   simpa using e
  have := hcap this
  omega
 ·obtain ⟨b, hb, hA, hcell⟩ := hp (by omega)
  subst hb
  have hne : cap ≠ lo := by omega
  refine ⟨b.add (lo * szOf P e), by simp [hne], by rw [qae]; exact hA, fun j hj => ?_⟩
  rw [qaA]
  refine hcell _ ?_
  have : lo * szOf P e + (hi - lo) * szOf P e = hi * szOf P e := by rw [<- Nat.add_mul]; congr 1; omega
  have : hi * szOf P e <= n * szOf P e := Nat.mul_le_mul_right _ h2
  omega
 ·have := hr (lo + i) j (by omega) hj
  rw [Nat.add_mul, Nat.add_assoc] at this
  have e : ((l.take hi).drop lo).getD i .bad = l.getD (lo + i) .bad := by
   rw [List.getD_eq_getElem?_getD, List.getD_eq_getElem?_getD, List.getElem?_drop, List.getElem?_take, if_pos (by omega)]
  rw [e]
  exact this
theorem qfg (hR : Rel P E M S a w) {o : Option Operand} {z : Int} {K : Int -> Tr TV} {K' : TV -> Option R} {r : R} (h : (bndTr P S o z K).go C K' = some r) :
  ∃ j, (K j).go C K' = some r /\ ((o = none /\ j = z) ∨ ∃ x k, o = some x /\ a.eval x = .int k j) := by
 unfold bndTr at h
 split at h
 ·exact ⟨z, h, .inl ⟨rfl, rfl⟩⟩
 ·rename_i y
  have hy := ev_r hR 0 y
  split at h
  ·rename_i b e
   rw [e] at hy
   split at h
   ·rename_i k j ej
    exact ⟨j, h, .inr ⟨y, k, rfl, qy hy ej⟩⟩
   ·exact (qg h).elim
  ·exact (qg h).elim
theorem run_sliceBound' (k : IntKind) (j : Int) (y : Nat) (code : BoundsCode) (h0 : 0 <= j) (h1 : j <= y) : (Instr.sliceBound (.int k j) y code).run P w = .ok j.toNat w := by
 simp [Instr.sliceBound, asIntOf, h0, h1]
theorem qcZ (hR : Rel P E M S a w) {lo hi : Option Operand} {n : Nat} {K : Nat -> Nat -> Tr TV} {K' : TV -> Option R} {r : R} (h : (cutTr P S lo hi n K).go C K' = some r) :
  ∃ l u, l <= u /\ u <= n /\ (K l u).go C K' = some r /\ ∀ isSlice cap, n <= cap -> (Instr.sliceBounds isSlice n cap (lo.map a.eval) (hi.map a.eval) none).run P w = .ok (l, u, cap) w := by
 unfold cutTr at h
 obtain ⟨u, h, hu⟩ := qfg hR h
 obtain ⟨c1, h⟩ := qv h
 obtain ⟨c2, h⟩ := qv h
 obtain ⟨l, h, hl⟩ := qfg hR h
 obtain ⟨c3, h⟩ := qv h
 obtain ⟨c4, h⟩ := qv h
 have c1 := of_decide_eq_true c1
 have c2 := of_decide_eq_true c2
 have c3 := of_decide_eq_true c3
 have c4 := of_decide_eq_true c4
 refine ⟨l.toNat, u.toNat, by omega, by omega, h, fun isSlice cap hc => ?_⟩
 rcases hu with ⟨rfl, rfl⟩ | ⟨x, k, rfl, hx⟩ <;> rcases hl with ⟨rfl, rfl⟩ | ⟨x', k', rfl, hx'⟩
 ·simp [Instr.sliceBounds]
 ·have q := fun code => run_sliceBound' (P := P) (w := w) k' l n code c3 c4
  simp [Instr.sliceBounds, hx', q]
 ·have q := fun code => run_sliceBound' (P := P) (w := w) k u cap code c1 (by omega)
  simp [Instr.sliceBounds, hx, q]
 ·have q := fun code => run_sliceBound' (P := P) (w := w) k u cap code c1 (by omega)
  have q' := fun code => run_sliceBound' (P := P) (w := w) k' l u.toNat code c3 (by omega)
  simp [Instr.sliceBounds, hx, q, hx', q']
theorem qgH {o : Oper} {t : TypeId} {x : Operand} {lo hi : Option Operand} (ho : o.op = .slice t x lo hi none) (hR : Rel P E M S a w) {K : TV -> Option R} {r : R}
  (h : (quiet P S o).go C K = some r) : Still P M w a o K r := by
 unfold quiet at h
 simp only [ho] at h
 have hx := ev_r hR t x
 split at h
 ·rename_i va e
  rw [e] at hx
  split at h
  ·rename_i s hund hs
   obtain ⟨l, u, q1, q2, h', hb⟩ := qcZ hR h
   have hv := qeC hx hs
   refine ⟨_, _, qj h', ?_, (vr_s (A := fun _ => True) (.str _) rfl : Vr P M w _ _)⟩
   simp only [execOp, ho, hv, Option.map_none]
   refine qo ?_
   simp [Instr.sliceAt, Instr.slice, run_underlying hund, hb false s.size (Nat.le_refl _)]
  ·rename_i el e' k z xs hund hs
   obtain ⟨c0, h1⟩ := qh h
   clear h
   simp only [Bool.and_eq_true, beq_iff_eq] at c0
   obtain ⟨rfl, c1⟩ := c0
   obtain ⟨l, u, q1, q2, h', hb⟩ := qcZ hR h1
   have hv := hx (by rw [hs]; simp)
   have hrd := hv.rd
   rw [hs] at hrd
   obtain ⟨A', cap, hval, _⟩ := qah hrd (n := _) rfl
   rw [hval] at hrd
   have hcut := Rd.cut_nums hrd c1 q1 q2
   have hnc : xs.length <= cap := by cases hrd; assumption
   have hinf : ∃ q, P.info? el = some q := by
    cases q : P.info? el with
    | none => simp [szOf, q] at c1
    | some q' => exact ⟨q', rfl⟩
   obtain ⟨q, hq⟩ := hinf
   refine ⟨_, _, qj h', ?_, fun _ => ⟨hcut, fun h => by simp at h, fun id hid => by simp at hid⟩⟩
   simp only [execOp, ho, hval, Option.map_none]
   refine qo ?_
   simp [Instr.sliceAt, Instr.slice, run_underlying hund, hb true cap hnc, qQ hq]
  ·rename_i el e' z xs hund hs
   obtain ⟨c0, h1⟩ := qh h
   clear h
   simp only [Bool.and_eq_true, beq_iff_eq, bne_iff_ne, ne_eq] at c0
   obtain ⟨rfl, c1⟩ := c0
   obtain ⟨l, u, q1, q2, h', hb⟩ := qcZ hR h1
   have hv := hx (by rw [hs]; simp)
   have hrd := hv.rd
   rw [hs] at hrd
   obtain ⟨A', cap, hval, _⟩ := qah hrd (n := _) rfl
   rw [hval] at hrd
   have hcut := Rd.cut_sl hrd q1 q2
   have hnc : xs.length <= cap := by cases hrd; assumption
   have hinf : ∃ q, P.info? el = some q := by
    cases q : P.info? el with
    | none => simp [szOf, q] at c1
    | some q' => exact ⟨q', rfl⟩
   obtain ⟨q, hq⟩ := hinf
   refine ⟨_, _, qj h', ?_, fun _ => ⟨hcut, fun h => by simp at h, fun id hid => by simp at hid⟩⟩
   simp only [execOp, ho, hval, Option.map_none]
   refine qo ?_
   simp [Instr.sliceAt, Instr.slice, run_underlying hund, hb true cap hnc, qQ hq]
  ·exact (qg h).elim
 ·rename_i d e
  rw [e] at hx
  split at h
  ·rename_i m el k m' l hund hbox
   obtain ⟨c0, h'⟩ := qh h
   clear h
   simp only [Bool.and_eq_true, beq_iff_eq] at c0
   obtain ⟨b, hb, hv⟩ := hx
   have hinf : ∃ q, P.info? el = some q := by
    cases q : P.info? el with
    | none => simp [szOf, q] at c0
    | some q' => exact ⟨q', rfl⟩
   obtain ⟨q, hq⟩ := hinf
   refine ⟨_, _, qj h', ?_, b, hb, rfl⟩
   simp only [execOp, ho, hv, Option.map_none]
   refine qo ?_
   simp [Instr.sliceAt, Instr.sliceBounds, Instr.sureAddr, run_underlying hund, qQ hq, Addr.add]
  ·exact (qg h).elim
 ·exact (qg h).elim
end
end Go.Proofs.YthocpcfjfgnkgaaGreatRv
namespace Go.Proofs.YthocpcfjfgnkgaaGreatRv
open Go Go.RowKit Go.ChangeMaps
set_option linter.unusedVariables false
set_option linter.unusedSimpArgs false
section
variable {P : Program} {M : Mdl} {w : World} {S : St} {a : Act} {E : Env} {C : CallSem} {R : Type}
theorem qjM (t : TypeId) (v : Value) : Vr P M w (zeroV P t v) v := by
 have := qfx (P := P) (M := M) (w := w) t v
 unfold zeroV
 split
 ·rename_i x e
  rw [e] at this
  exact this
 ·exact fun h => (h rfl).elim
theorem qeU {t : TypeId} (h : (zeros P t).length = (zeroCells P t).length) : VrL P M w (zeros P t) (zeroCells P t).toArray := by
 refine ⟨by simp [h], fun i hi => ?_⟩
 have h1 : i < (zeroCells P t).length := by omega
 have h2 : i < (cellTys P depth t).length := by
  unfold zeros at hi
  simp at hi
  omega
 have e1 : (zeros P t).getD i V.bad = zeroV P (cellTys P depth t)[i] (zeroCells P t)[i] := by
  simp [zeros, List.getD_eq_getElem?_getD, List.getElem?_zipWith, List.getElem?_eq_getElem h1, List.getElem?_eq_getElem h2]
 have e2 : (zeroCells P t).toArray.getD i undef = (zeroCells P t)[i] := by
  simp [Array.getD_eq_getD_getElem?, List.getElem?_eq_getElem h1]
 rw [e1, e2]
 exact qjM _ _
theorem qhH {A : Nat -> Prop} {v : Value} {x : T} {t : TypeId} (h : Rd P w A v x) (hx : ok1 P t x = true) : v.cells = #[v] := by
 cases h <;> first
  | rfl
  | (exfalso; unfold ok1 at hx; split at hx <;> simp_all; done)
theorem qbX {tv : TV} {v : Value} {vs : List V} {ts : List TypeId} (h : TVr P M w tv v) (hc : cellsTV tv = some vs) (hok : okCells P ts vs = true) : VrL P M w vs v.cells := by
 cases tv with
 | val x =>
  simp [cellsTV] at hc
  subst hc
  have h1 := qz hok
  have hl : ts.length = 1 := by simpa using h1.1.symm
  have h2 := h1.2 0 ts[0] (List.getElem?_eq_getElem (by omega))
  simp at h2
  have h3 := (qR h2).2.1
  have e := qhH (h h3).rd h2
  refine ⟨by rw [e]; rfl, fun i hi => ?_⟩
  have hi0 : i = 0 := by simp at hi; omega
  subst hi0
  rw [e]
  exact h
 | agg l =>
  simp [cellsTV] at hc
  subst hc
  obtain ⟨us, rfl, h⟩ := h
  exact h
 | _ => simp [cellsTV] at hc
theorem qfk (off : Nat) : ∀ (vs : List Value) (k : Nat) (cs : Array Value), (∀ i, ((vs.zipIdx k).foldl (fun cs (c : Value × Nat) => cs.setIfInBounds (off + c.2) c.1) cs)[i]? = if off + k <= i /\ i < off + k + vs.length /\ i < cs.size then vs[i - (off + k)]? else cs[i]?) /\ ((vs.zipIdx k).foldl (fun cs (c : Value × Nat) => cs.setIfInBounds (off + c.2) c.1) cs).size = cs.size
 | [], k, cs => ⟨fun i => by simp; omega, rfl⟩
 | v :: vs, k, cs => by
  obtain ⟨h1, h2⟩ := qfk off vs (k + 1) (cs.setIfInBounds (off + k) v)
  simp only [List.zipIdx_cons, List.foldl_cons]
  refine ⟨fun i => ?_, by rw [h2]; simp⟩
  rw [h1]
  simp only [Array.size_setIfInBounds, List.length_cons]
  by_cases hi : i = off + k
  ·subst hi
   simp [Array.getElem?_setIfInBounds]
   by_cases hl : off + k < cs.size
   ·simp [hl]
    omega
   ·simp [hl]
  ·by_cases hc : off + (k + 1) <= i /\ i < off + (k + 1) + vs.length /\ i < cs.size
   ·rw [if_pos hc, if_pos (by omega), show i - (off + k) = (i - (off + (k + 1))) + 1 by omega, List.getElem?_cons_succ]
   ·rw [if_neg hc, if_neg (by omega), Array.getElem?_setIfInBounds]
    simp [Ne.symm hi]
theorem qkz {l vs : List V} {cs us : Array Value} {off : Nat} (hl : VrL P M w l cs) (hv : VrL P M w vs us) (hoff : off + vs.length <= l.length) :
  VrL P M w (lay l off vs) (us.zipIdx.foldl (fun cs (c : Value × Nat) => cs.setIfInBounds (off + c.2) c.1) cs) := by
 have hz : us.zipIdx.foldl (fun cs (c : Value × Nat) => cs.setIfInBounds (off + c.2) c.1) cs = (us.toList.zipIdx 0).foldl (fun cs (c : Value × Nat) => cs.setIfInBounds (off + c.2) c.1) cs := by
  rw [<- Array.foldl_toList]
  simp
 rw [hz]
 obtain ⟨h1, h2⟩ := qfk off us.toList 0 cs
 have hlen : (lay l off vs).length = l.length := by simp [lay]; omega
 refine ⟨by rw [h2, hl.1, hlen], fun i hi => ?_⟩
 rw [hlen] at hi
 rw [Array.getD_eq_getD_getElem?, h1]
 have hu := hv.1
 have hc := hl.1
 simp only [Nat.add_zero, Array.length_toList, Array.getElem?_toList]
 by_cases hin : off <= i /\ i < off + vs.length
 ·have e1 : (lay l off vs).getD i V.bad = vs.getD (i - off) V.bad := by
   rw [List.getD_eq_getElem?_getD, List.getD_eq_getElem?_getD]
   unfold lay
   rw [List.getElem?_append_left (by simp; omega), List.getElem?_append_right (by simp; omega)]
   simp [show min off l.length = off by omega]
  rw [e1, if_pos (by omega)]
  have := hv.2 (i - off) (by omega)
  rwa [Array.getD_eq_getD_getElem?] at this
 ·have e1 : (lay l off vs).getD i V.bad = l.getD i V.bad := by
   rw [List.getD_eq_getElem?_getD, List.getD_eq_getElem?_getD]
   unfold lay
   by_cases hlt : i < off
   ·rw [List.getElem?_append_left (by simp; omega), List.getElem?_append_left (by simp; omega), List.getElem?_take, if_pos hlt]
   ·rw [List.getElem?_append_right (by simp; omega), List.getElem?_drop]
    congr 2
    simp
    omega
  rw [e1, if_neg (by omega)]
  have := hl.2 i hi
  rwa [Array.getD_eq_getD_getElem?] at this
theorem qdX (hR : Rel P E M S a w) {place : Nat -> Option (Nat × TypeId)} {cplace : Nat -> Option (Nat × Nat)} (hp : ∀ i off t, place i = some (off, t) -> cplace i = some (off, szOf P t)) :
  ∀ (parts : List (Nat × Operand)) (l l' : List V) (cs : Array Value), buildCells P S place l parts = some l' -> VrL P M w l cs ->
   ∃ cs', Instr.fill cplace cs (parts.map fun p => (p.1, a.eval p.2)) = some cs' /\ VrL P M w l' cs'
 | [], l, l', cs, h, hl => by simp [buildCells] at h; subst h; exact ⟨cs, rfl, hl⟩
 | (i, x) :: rest, l, l', cs, h, hl => by
  simp only [buildCells] at h
  split at h
  ·simp at h
  ·rename_i off t hpl
   split at h
   ·simp at h
   ·rename_i vs hvs
    split at h
    ·rename_i hok
     simp only [Bool.and_eq_true, decide_eq_true_eq] at hok
     obtain ⟨⟨hty, hok⟩, hle⟩ := hok
     have hv := qbX (ev_r hR t x) hvs hok
     have hsz := (unsome hty)
     obtain ⟨_, _, _, _, _, q4, _⟩ := hsz
     have hlen := (qz hok).1
     rw [List.length_map] at hlen
     obtain ⟨cs', h1, h2⟩ := qdX hR hp rest _ l' _ h (qkz hl hv hle)
     refine ⟨cs', ?_, h2⟩
     simp only [List.map_cons, Instr.fill, hp i off t hpl]
     have c1 : ((a.eval x).cells.size ≠ szOf P t) = False := by simp [hv.1, hlen, q4]
     have c2 : ¬ (off + (a.eval x).cells.size > cs.size) := by rw [hv.1, hl.1]; omega
     rw [if_neg (by simp [hv.1, hlen, q4]; have := hl.1; omega)]
     exact h1
    ·simp at h
theorem qS {t : TypeId} (h : (!(zeroCells P t).isEmpty) = true) : ∃ i z, P.info? t = some i /\ i.zero = some z /\ z.cells = (zeroCells P t).toArray := by
 unfold zeroCells at *
 split at h
 ·rename_i i hi
  split at h
  ·rename_i z hz
   exact ⟨i, z, hi, hz, by simp [hi, hz]⟩
  ·simp at h
 ·simp at h
theorem qgy {o : Oper} {t : TypeId} {parts : Array (Nat × Operand)} (ho : o.op = .build t parts) (hR : Rel P E M S a w) {K : TV -> Option R} {r : R}
  (h : (quiet P S o).go C K = some r) : Still P M w a o K r := by
 unfold quiet at h
 simp only [ho] at h
 have hparts : (parts.map fun (i, x) => (i, a.eval x)).toList = parts.toList.map fun p => (p.1, a.eval p.2) := by simp
 split at h
 ·rename_i fs hund
  obtain ⟨c, h'⟩ := qh h
  clear h
  simp only [Bool.and_eq_true, beq_iff_eq] at c
  obtain ⟨⟨c1, c2⟩, c3⟩ := c
  obtain ⟨i, z, hi, hz, hzc⟩ := qS c3
  split at h'
  ·rename_i l hl
   have hmap : fs.toList.mapM (fun f => (P.info? f.type).map fun i => (f.offset, i.size)) = some (fs.toList.map fun f => (f.offset, szOf P f.type)) := by
    have := mapM_total (f := fun f : Field => (P.info? f.type).map fun i => (f.offset, i.size)) (0, 0) (l := fs.toList) (fun f hf => by
     have h1 := (List.all_eq_true.1 c1) f hf
     obtain ⟨q, hq⟩ := Option.isSome_iff_exists.1 h1
     exact ⟨(f.offset, q.size), by simp [hq]⟩)
    rw [this]
    congr 1
    refine List.map_congr_left fun f hf => ?_
    have h1 := (List.all_eq_true.1 c1) f hf
    obtain ⟨q, hq⟩ := Option.isSome_iff_exists.1 h1
    simp [hq, szOf]
   obtain ⟨cs', q1, q2⟩ := qdX hR (cplace := fun i => (fs.toList.map fun f => (f.offset, szOf P f.type)).toArray[i]?) (fun i off t hpl => by
    obtain ⟨fs', fd, r1, r2, r3, r4, r5⟩ := qbO hpl
    rw [hund] at r1
    cases r1
    subst r3 r4
    have r2' : fs.toList[i]? = some fd := by simpa using r2
    simp [r2']) _ _ _ _ hl (qeU c2)
   refine ⟨_, _, qj h', ?_, cs', rfl, q2⟩
   simp only [execOp, ho]
   refine qo (run_build w t _ cs' ?_)
   unfold Program.built
   rw [hi, hund]
   simp only [hz, hmap, hparts, hzc]
   exact q1
  ·exact (qg h').elim
 ·rename_i n e hund
  obtain ⟨c, h'⟩ := qh h
  clear h
  simp only [Bool.and_eq_true, beq_iff_eq] at c
  obtain ⟨⟨c1, c2⟩, c3⟩ := c
  obtain ⟨i, z, hi, hz, hzc⟩ := qS c3
  obtain ⟨ie, hie⟩ := Option.isSome_iff_exists.1 c1
  split at h'
  ·rename_i l hl
   obtain ⟨cs', q1, q2⟩ := qdX hR (cplace := fun i => some (i * szOf P e, szOf P e)) (fun i off t hpl => by
    simp at hpl
    obtain ⟨rfl, rfl⟩ := hpl
    rfl) _ _ _ _ hl (qeU c2)
   refine ⟨_, _, qj h', ?_, cs', rfl, q2⟩
   simp only [execOp, ho]
   refine qo (run_build w t _ cs' ?_)
   unfold Program.built
   have hs : ie.size = szOf P e := by simp [szOf, hie]
   rw [hi, hund]
   simp only [hz, hie, hparts, hzc, hs]
   exact q1
  ·exact (qg h').elim
 ·exact (qg h).elim
theorem qhC (l : List Int) : l.foldl (fun r n => r.push (UInt8.ofNat n.toNat)) ByteArray.empty = strOf l := by
 have key : ∀ (l : List Int) (s : ByteArray), (l.foldl (fun r n => r.push (UInt8.ofNat n.toNat)) s).data.toList = s.data.toList ++ l.map fun n => UInt8.ofNat n.toNat := by
  intro l
  induction l with
  | nil => intro s; simp
  | cons n l ih =>
   intro s
   rw [List.foldl_cons, ih]
   simp [ByteArray.push]
 have := key l ByteArray.empty
 unfold strOf
 cases h : l.foldl (fun r n => r.push (UInt8.ofNat n.toNat)) ByteArray.empty with
 | mk d =>
  rw [h] at this
  congr 1
  apply Array.toList_inj.1
  simpa using this
theorem qfE {o : Oper} {s t : TypeId} {x : Operand} (ho : o.op = .convert s t x) (hR : Rel P E M S a w) {K : TV -> Option R} {r : R}
  (h : (quiet P S o).go C K = some r) : Still P M w a o K r := by
 unfold quiet at h
 simp only [ho] at h
 have hx := ev_r hR s x
 split at h
 ·rename_i va e
  rw [e] at hx
  obtain ⟨c0, h1⟩ := qh h
  clear h
  obtain ⟨ds, hds⟩ := Option.isSome_iff_exists.1 c0
  rw [qcg] at h1
  unfold convT at h1
  split at h1
  ·rename_i k k' n hund hn
   refine ⟨_, _, h1, ?_, (vr_s (A := fun _ => True) (.int _ _) rfl : Vr P M w _ _)⟩
   simp only [execOp, ho, qy hx hn]
   refine qo ?_
   unfold Go.convert
   simp only [Sem.run_bind, run_underlying hds, run_underlying hund, Result.andThen_ok]
   cases ds <;> simp [Conv.intToInt, qei]
  ·rename_i st hund hs
   refine ⟨_, _, h1, ?_, (vr_s (A := fun _ => True) (.str _) rfl : Vr P M w _ _)⟩
   simp only [execOp, ho, qeC hx hs]
   refine qo ?_
   unfold Go.convert
   simp only [Sem.run_bind, run_underlying hds, run_underlying hund, Result.andThen_ok]
   cases ds <;> rfl
  ·rename_i e' k z l hund hs
   obtain ⟨c, h2⟩ := qh h1
   clear h1
   have h1 := h2
   clear h2
   simp only [Bool.and_eq_true, beq_iff_eq] at c
   obtain ⟨c5, c⟩ := c
   subst c5
   split at c
   ·rename_i el hsl
    simp only [beq_iff_eq] at c
    have hel := qaV c
    have hrd := (hx (by rw [hs]; simp)).rd
    rw [hs] at hrd
    refine ⟨_, _, h1, ?_, (vr_s (A := fun _ => True) (.str _) rfl : Vr P M w _ _)⟩
    obtain ⟨A', cap, hv, hsome⟩ := qah hrd (n := _) rfl
    simp only [execOp, ho, hv]
    refine qo ?_
    rw [run_convert_bytes_string w s t el A' _ cap hsl hel hund]
    rw [hv] at hrd
    cases hrd with
    | nums _ _ _ _ _ _ _ hn hz hm hcap hnc hc =>
    cases A' with
    | none =>
     have : l = [] := by
      have := hcap rfl
      exact List.eq_nil_of_length_eq_zero (by omega)
     subst this
     simp [Conv.bytesToString, strOf]
     rfl
    | some ad =>
     have hcells : ∀ j, j < l.length -> w.cell? (ad.add j) = some ((fun j => Value.int .u8 (l.getD j 0)) j) := fun j hj => by
      obtain ⟨ad', e, _, h⟩ := hc j hj
      cases e
      exact h
     have hl := run_loadCells (P := P) w ad l.length _ hcells
     have el' : ((List.range l.length).map fun j => Value.int .u8 (l.getD j 0)) = l.map (Value.int .u8) := by
      apply List.ext_getElem (by simp)
      intro i h1 h2
      simp at h1 h2
      simp [List.getD_eq_getElem?_getD, h1]
     rw [el'] at hl
     rw [run_bytesToString w ad l.length cap l hl, qhC]
   ·simp at c
  ·exact (qg h1).elim
 ·exact (qg h).elim
theorem qgK {o : Oper} {t : TypeId} {x : Operand} {f : Nat} (ho : o.op = .field t x f) (hR : Rel P E M S a w) {K : TV -> Option R} {r : R}
  (h : (quiet P S o).go C K = some r) : Still P M w a o K r := by
 unfold quiet at h
 simp only [ho] at h
 have hx := ev_r hR t x
 split at h
 ·rename_i l off t' e1 e2
  rw [e1] at hx
  obtain ⟨us, hv, hl, hc⟩ := hx
  obtain ⟨c0, h1⟩ := qh h
  clear h
  simp only [Bool.and_eq_true, beq_iff_eq] at c0
  obtain ⟨hlen, ht⟩ := c0
  obtain ⟨tv, htv, hK⟩ := qcq h1
  obtain ⟨fs, fd, r1, r2, r3, r4, r5⟩ := qbO e2
  subst r3 r4
  obtain ⟨dd, inf, q1, q2, q3, q4, q5⟩ := unsome ht
  have hle : fd.offset + szOf P fd.type <= l.length := by
   simp only [List.length_take, List.length_drop] at hlen
   omega
  refine ⟨tv, _, hK, ?_, qas (c := fun j => us.getD (fd.offset + j) undef) (by rw [hlen, q4]) (fun j hj => ?_) htv⟩
  ·simp only [execOp, ho, hv]
   refine qo ?_
   simp only [Instr.field, run_underlying r1, Sem.run_bind, Result.andThen_ok, r2, asAgg, Sem.run_pure, part, run_isAgg' q1]
   cases hagg : isAgg P fd.type with
   | true =>
    simp only [if_true, qQ q2, Sem.run_bind, Result.andThen_ok, Sem.run_pure]
    congr 2
    apply Array.ext
    ·simp [hl]
     omega
    ·intro i h1 h2
     simp at h1 h2
     simp [Array.getD_eq_getD_getElem?, Array.getElem?_eq_getElem (show fd.offset + i < us.size by omega)]
   | false =>
    have : fd.offset < us.size := by omega
    simp [Array.getElem?_eq_getElem this, Array.getD_eq_getD_getElem?]
  ·rw [qaI _ _ _ _ _ (by omega)]
   exact hc (fd.offset + j) (by omega)
 ·exact (qg h).elim
theorem qcr (hR : Rel P E M S a w) : ∀ (xs : List Operand) (ts : List T) (g : List Id), capsTr P S xs = some (ts, g) -> ts.length = xs.length /\
  ∀ i, i < ts.length -> Rd P w (avoid M w g) (a.eval (xs.getD i (.const undef))) (ts.getD i .bad)
 | [], ts, g, h => by simp [capsTr] at h; obtain ⟨rfl, rfl⟩ := h; exact ⟨rfl, fun i hi => by simp at hi⟩
 | x :: xs, ts, g, h => by
  simp only [capsTr] at h
  have hx := ev_r hR 0 x
  have mono : ∀ {g1 g2 : List Id}, (∀ r, r ∈ g1 -> r ∈ g2) -> ∀ b, avoid M w g1 b -> avoid M w g2 b := fun hs b hb => ⟨hb.1, fun r hr hq => hb.2.1 r (fun h => hr (hs r h)) hq, hb.2.2⟩
  have same : ∀ A : Nat -> Prop, Same A w w := fun A b hb => rfl
  split at h
  ·rename_i ts' g' v e1 e2
   obtain ⟨h1, h2⟩ := qcr hR xs ts' g' e1
   rw [e2] at hx
   split at h
   ·simp at h
   ·rename_i hb
    simp at h
    obtain ⟨rfl, rfl⟩ := h
    refine ⟨by simp [h1], fun i hi => ?_⟩
    cases i with
    | zero => exact (hx (qbp (by simp [hb]))).rd.keep (same _) (mono fun r hr => by simp [hr])
    | succ i => exact (h2 i (by simpa using hi)).keep (same _) (mono fun r hr => by simp [hr])
  ·rename_i ts' g' d e1 e2
   obtain ⟨h1, h2⟩ := qcr hR xs ts' g' e1
   rw [e2] at hx
   obtain ⟨b, hb, hv⟩ := hx
   split at h
   ·rename_i l hbox
    split at h
    ·simp at h
    ·rename_i hany
     simp at h
     obtain ⟨rfl, rfl⟩ := h
     obtain ⟨b', hb', cs, ty, hh, hsz, hcs⟩ := hR.inv.boxes d _ hbox
     rw [hb] at hb'
     cases hb'
     refine ⟨by simp [h1], fun i hi => ?_⟩
     cases i with
     | zero =>
      simp only [List.getD_cons_zero, hv]
      refine .ptr _ _ (fun j => cs.getD j undef) ⟨?_, fun r hr hq => ?_, hR.inv.okβ _ _ (hR.inv.bxβ d b hb)⟩ (fun j hj => ?_) (fun j hj => ?_)
      ·exact (Array.getElem?_eq_some_iff.1 hh).1
      ·exact hr (by rw [hR.inv.dis r _ b hq (hR.inv.bxβ d b hb)]; simp)
      ·have hj' : j < cs.size := by simp at hj; omega
       rw [add_plain', Nat.zero_add, qbq hh, Array.getD_eq_getD_getElem?, Array.getElem?_eq_getElem hj']
       rfl
      ·have hj' : j < l.length := by simpa using hj
       have e : (l.map (·.t)).getD j .bad = (l.getD j V.bad).t := by simp [List.getD_eq_getElem?_getD, hj']
       rw [e]
       have hne : (l.getD j V.bad).t ≠ .bad := fun hq => by
        refine absurd (List.any_eq_false.1 hany (l.getD j V.bad) (by rw [List.getD_eq_getElem?_getD, List.getElem?_eq_getElem hj']; simp)) ?_
        rw [hq]
        simp [T.isBad]
       refine (hcs j hj' hne).rd.keep (same _) (mono fun r hr => ?_)
       have : r ∈ gs l := by
        unfold gs
        rw [List.mem_flatMap]
        exact ⟨l.getD j V.bad, by rw [List.getD_eq_getElem?_getD, List.getElem?_eq_getElem hj']; simp, hr⟩
       simp [this]
     | succ i => exact (h2 i (by simpa using hi)).keep (same _) (mono fun r hr => by simp [hr])
   ·simp at h
  ·rename_i ts' g' v e1 e2
   obtain ⟨h1, h2⟩ := qcr hR xs ts' g' e1
   rw [e2] at hx
   split at h
   ·simp at h
   ·rename_i hb
    simp at h
    obtain ⟨rfl, rfl⟩ := h
    obtain ⟨ad, q1, hv⟩ := hx (qbp (by simp [hb]))
    refine ⟨by simp [h1], fun i hi => ?_⟩
    cases i with
    | zero =>
     have e0 : ad.add 0 = ad := by simp [Addr.add]
     simp only [List.getD_cons_zero, hv, e0]
     exact q1.rd.keep (same _) (mono fun r hr => by simp [hr])
    | succ i => exact (h2 i (by simpa using hi)).keep (same _) (mono fun r hr => by simp [hr])
  ·simp at h
theorem qeL {o : Oper} {f : FuncId} {first caps : Array Operand} (ho : o.op = .makeFunc (.func f) first caps) (hR : Rel P E M S a w) {K : TV -> Option R} {r : R}
  (h : (quiet P S o).go C K = some r) : Still P M w a o K r := by
 unfold quiet at h
 simp only [ho] at h
 obtain ⟨c0, h1⟩ := qh h
 clear h
 have ef : first = #[] := by simpa using c0
 subst ef
 split at h1
 ·rename_i ts g e
  obtain ⟨q1, q2⟩ := qcr hR _ _ _ e
  refine ⟨_, .func (.func f) #[] (caps.map a.eval), qj h1, by simp [execOp, ho, Instr.makeFunc], fun _ => ⟨.fn f _ ts (by simp [q1]) fun i hi => ?_, fun h => by simp at h, fun id hid => by simp at hid⟩⟩
  have := q2 i hi
  have hi' : i < caps.size := by rw [q1] at hi; simpa using hi
  simpa [Array.getD_eq_getD_getElem?, List.getD_eq_getElem?_getD, hi'] using this
 ·exact (qg h1).elim
end
end Go.Proofs.YthocpcfjfgnkgaaGreatRv
namespace Go.Proofs.YthocpcfjfgnkgaaGreatRv
open Go Go.RowKit
set_option linter.unusedVariables false
set_option linter.unusedSimpArgs false
section
variable {P : Program} {M : Mdl} {w : World} {S : St} {a : Act} {E : Env} {C : CallSem} {R : Type}
theorem TVr.to_of {M' : Mdl} {w' : World} {p : V -> Bool} {t : TV} {v : Value} (h : TVr P M w t v) (ht : anyV p t = false) (hf : ∀ x v, p x = false -> Vr P M w x v -> Vr P M' w' x v) (hbx : ∀ d b, M.bx d = some b -> M'.bx d = some b) (hw : Same (· < w.heap.size) w w') : TVr P M' w' t v := by
 have hl : ∀ (l : List V) (vs : Array Value), l.any p = false -> VrL P M w l vs -> VrL P M' w' l vs := fun l vs hp h => by
  refine ⟨h.1, fun i hi => hf _ _ ?_ (h.2 i hi)⟩
  have := List.any_eq_false.1 hp (l.getD i V.bad) (by rw [List.getD_eq_getElem?_getD, List.getElem?_eq_getElem hi]; simp)
  simpa using this
 cases t with
 | undef => trivial
 | val x => exact hf _ _ ht h
 | agg l => obtain ⟨vs, e, h⟩ := h; exact ⟨vs, e, hl _ _ ht h⟩
 | tup l =>
  obtain ⟨vs, e, h1, h2⟩ := h
  refine ⟨vs, e, h1, fun i hi => ?_⟩
  have := h2 i hi
  have hp := List.any_eq_false.1 ht (l.getD i (true, [])) (by rw [List.getD_eq_getElem?_getD, List.getElem?_eq_getElem hi]; simp)
  generalize l.getD i (true, []) = c at this hp
  obtain ⟨b, l'⟩ := c
  have hp' : l'.any p = false := by simpa using hp
  cases b with
  | true => obtain ⟨us, e', h'⟩ := this; exact ⟨us, e', hl _ _ hp' h'⟩
  | false =>
   match l', this, hp' with
   | [], _, _ => trivial
   | [x], h', hp' => exact hf _ _ (by simpa using hp') h'
   | _ :: _ :: _, _, _ => trivial
 | bp d off => obtain ⟨b, h1, h2⟩ := h; exact ⟨b, hbx _ _ h1, h2⟩
 | ep x i off =>
  intro hx
  obtain ⟨ad, n, cap, e, h1, h2⟩ := h hx
  exact ⟨ad, n, cap, e, hf x _ ht (fun _ => h1) hx, h2⟩
 | ap d m i => obtain ⟨b, h1, h2⟩ := h; exact ⟨b, hbx _ _ h1, h2⟩
 | as d m => obtain ⟨b, h1, h2⟩ := h; exact ⟨b, hbx _ _ h1, h2⟩
 | pp x off =>
  intro hx
  obtain ⟨ad, h1, h2⟩ := h hx
  exact ⟨ad, hf x _ ht (fun _ => h1) hx, h2⟩
 | pt y x i off =>
  simp only [anyV, Bool.or_eq_false_iff] at ht
  exact ⟨hf y v ht.1 h.1, fun hx => (h.2 hx).to hx (fun v h => hf x v ht.2 h) hw⟩
theorem qdl {p : Id -> Bool} (h : S.has p = false) (i : Nat) : anyV (fun x => x.g.any p) (S.tmp i) = false := by
 unfold St.has St.any at h
 simp only [Bool.or_eq_false_iff] at h
 unfold St.tmp
 rw [List.getD_eq_getElem?_getD]
 cases hi : S.tmps[i]? with
 | none => rfl
 | some t =>
  have := List.any_eq_false.1 h.1 t (List.mem_of_getElem? hi)
  simpa using this
theorem qhW {p : V -> Bool} {t : TV} (h : anyV p t = false) : anyV p t.plain = false := by
 cases t <;> first | exact h | (simp only [anyV, Bool.or_eq_false_iff] at h; exact h.1)
theorem qhc {p : Id -> Bool} (h : S.has p = false) {d : Nat} {l : List V} (hb : S.box d = some (.cells l)) : l.any (fun x => x.g.any p) = false := by
 unfold St.has St.any at h
 simp only [Bool.or_eq_false_iff] at h
 unfold St.box at hb
 rw [List.getD_eq_getElem?_getD] at hb
 cases hi : S.boxes[d]? with
 | none => simp [hi] at hb
 | some b =>
  simp [hi] at hb
  subst hb
  have := List.any_eq_false.1 h.2 _ (List.mem_of_getElem? hi)
  simpa using this
def Mdl.site (M : Mdl) (d : Nat) (B : Nat -> Nat -> Prop) (h : Nat -> Value) : Mdl :=
 ⟨fun r b => match r with | .n d' j => if d' = d then B j b else M.β r b | r => M.β r b, M.bx, fun id => match id with | .n d' j => if d' = d then h j else M.hd id | id => M.hd id, M.ok⟩
theorem qak {d : Nat} {B : Nat -> Nat -> Prop} {h : Nat -> Value} {r : Id} (hr : ofSite d r = false) : (M.site d B h).β r = M.β r := by
 cases r with
 | n d' j => simp only [ofSite, beq_eq_false_iff_ne, ne_eq] at hr; simp [Mdl.site, Ne.symm hr]
 | _ => rfl
theorem qhf {d : Nat} {B : Nat -> Nat -> Prop} {h : Nat -> Value} {r : Id} (hr : ofSite d r = false) : (M.site d B h).hd r = M.hd r := by
 cases r with
 | n d' j => simp only [ofSite, beq_eq_false_iff_ne, ne_eq] at hr; show (if d' = d then h j else M.hd (.n d' j)) = _; rw [if_neg (Ne.symm hr)]
 | _ => rfl
theorem qN {d : Nat} {B : Nat -> Nat -> Prop} {h : Nat -> Value} (j : Nat) : (M.site d B h).β (.n d j) = B j := by
 funext b
 simp [Mdl.site]
theorem qK {d : Nat} {r : Id} (h : ofSite d r = true) : ∃ j, r = .n d j := by
 cases r with
 | n d' j => simp [ofSite] at h; exact ⟨j, by rw [h]⟩
 | _ => simp [ofSite] at h
theorem VrG.move {M' : Mdl} {w' : World} {x : V} {v : Value} (h : VrG P M w x v) (hs : Same (avoid M w x.g) w w') (hi : Same (inside M x.g) w w') (hav : ∀ b, avoid M w x.g b -> avoid M' w' x.g b)
  (hβ : ∀ r ∈ x.g, M'.β r = M.β r) (hhd : ∀ r ∈ x.g, M'.hd r = M.hd r) : VrG P M' w' x v := by
 have hins : ∀ b, inside M x.g b -> inside M' x.g b := fun b ⟨r, hr, hb⟩ => ⟨r, hr, by rw [hβ r hr]; exact hb⟩
 refine ⟨h.rd.keep hs hav, fun hx => ((h.sep hx).keep hi).mono hins, fun id hid => ?_⟩
 obtain ⟨h1, h2, h3⟩ := h.own id hid
 refine ⟨h1, by rw [hhd id h1]; exact h2, ?_⟩
 have hin : ∀ b, M.β id b -> w'.heap[b]? = w.heap[b]? := fun b hb => hi b ⟨id, h1, hb⟩
 cases hx : x.t with
 | nums e k z l =>
  rw [hx] at h3
  exact ⟨qad h3.1 fun b hb => hin b (h3.2.2 b hb), h3.2.1, fun b hb => by rw [hβ id h1]; exact h3.2.2 b hb⟩
 | sl e z l =>
  rw [hx] at h3
  obtain ⟨cs, q1, q2, q3, q4⟩ := h3
  refine ⟨cs, qad q1 fun b hb => hin b (q3 b hb), q2, fun b hb => by rw [hβ id h1]; exact q3 b hb, fun b hb i j hi hj => (q4 b hb i j hi hj).keep (hs.mono fun q hq => hq.1) fun q hq => ⟨hav q hq.1, hq.2⟩⟩
 | _ => rw [hx] at h3; exact h3.elim
theorem Vr.site {w' : World} {x : V} {v : Value} {d : Nat} {B : Nat -> Nat -> Prop} {hv : Nat -> Value} (h : Vr P M w x v) (hlt : ∀ r b, M.β r b -> b < w.heap.size) (hb : Below w.heap.size w w')
  (hB : ∀ j b, B j b -> w.heap.size <= b) (hx : x.g.any (ofSite d) = false) : Vr P (M.site d B hv) w' x v := by
 intro hne
 have hg : ∀ r ∈ x.g, ofSite d r = false := fun r hr => by
  have := List.any_eq_false.1 hx r hr
  simpa using this
 refine (h hne).move (fun b h => hb.block b h.1) (fun b ⟨r, _, hr⟩ => hb.block b (hlt r b hr)) (fun b hb' => ⟨Nat.lt_of_lt_of_le hb'.1 hb.size, fun r hr hq => ?_, hb'.2.2⟩) (fun r hr => qak (hg r hr)) (fun r hr => qhf (hg r hr))
 cases hs : ofSite d r with
 | false => rw [qak hs] at hq; exact hb'.2.1 r hr hq
 | true =>
  obtain ⟨j, rfl⟩ := qK hs
  rw [qN] at hq
  have := hB j b hq
  have := hb'.1
  omega
theorem TVr.site {w' : World} {t : TV} {v : Value} {d : Nat} {B : Nat -> Nat -> Prop} {hv : Nat -> Value} (h : TVr P M w t v) (hlt : ∀ r b, M.β r b -> b < w.heap.size) (hb : Below w.heap.size w w')
  (hB : ∀ j b, B j b -> w.heap.size <= b) (hx : anyV (fun x => x.g.any (ofSite d)) t = false) : TVr P (M.site d B hv) w' t v :=
 h.to_of hx (fun x v hx h => h.site hlt hb hB hx) (fun d b h => h) (Same.of_below hb)
theorem BoxR.site {w' : World} {x : Box} {b d : Nat} {B : Nat -> Nat -> Prop} {hv : Nat -> Value} (h : BoxR P M w b x) (hlt : ∀ r b, M.β r b -> b < w.heap.size) (hb : Below w.heap.size w w')
  (hB : ∀ j b, B j b -> w.heap.size <= b) (hx : ∀ l, x = .cells l -> l.any (fun x => x.g.any (ofSite d)) = false) : BoxR P (M.site d B hv) w' b x := by
 cases x with
 | cells l =>
  obtain ⟨cs, ty, h1, h2, h3⟩ := h
  have hl : b < w.heap.size := (Array.getElem?_eq_some_iff.1 h1).1
  refine ⟨cs, ty, (hb.block b hl).trans h1, h2, fun i hi => (h3 i hi).site hlt hb hB ?_⟩
  have := List.any_eq_false.1 (hx l rfl) (l.getD i V.bad) (by rw [List.getD_eq_getElem?_getD, List.getElem?_eq_getElem hi]; simp)
  simpa using this
 | arr k m l =>
  obtain ⟨ty, h1, h2⟩ := h
  have hl : b < w.heap.size := (Array.getElem?_eq_some_iff.1 h1).1
  exact ⟨ty, (hb.block b hl).trans h1, h2⟩
theorem Rel.site {w' : World} {d : Nat} {B : Nat -> Nat -> Prop} {hv : Nat -> Value} (h : Rel P E M S a w) (hb : Below w.heap.size w w') (hB : ∀ j b, B j b -> w.heap.size <= b /\ b < w'.heap.size)
  (hdis : ∀ i j b, B i b -> B j b -> i = j) (hS : S.has (ofSite d) = false) : Rel P E (M.site d B hv) S a w' := by
 have hI := h.inv
 have cs : ∀ r b, (M.site d B hv).β r b -> (ofSite d r = false /\ M.β r b) ∨ ∃ j, r = .n d j /\ B j b := fun r b hr => by
  cases hs : ofSite d r with
  | false => rw [qak hs] at hr; exact .inl ⟨rfl, hr⟩
  | true =>
   obtain ⟨j, rfl⟩ := qK hs
   rw [qN] at hr
   exact .inr ⟨j, rfl, hr⟩
 refine ⟨⟨hb.os.trans hI.os, hb.tape.trans hI.tape, hb.output.trans hI.output, Nat.le_trans hI.size hb.size, fun b hb' hu => (hb.block b (Nat.lt_of_lt_of_le hb' hI.size)).trans (hI.old b hb' hu), fun r s b hr hs => ?_, fun r b hr => ?_, fun r b hr => ?_, fun q b hq => ?_, fun r b hr => ?_, hI.okN, hI.pin, fun q x hx => ?_⟩, h.defers, h.size, fun i => (h.tmps i).site hI.lt hb (fun j b hj => (hB j b hj).1) (qdl hS i)⟩
 ·rcases cs r b hr with ⟨_, p1⟩ | ⟨i, rfl, p1⟩ <;> rcases cs s b hs with ⟨_, p2⟩ | ⟨j, rfl, p2⟩
  ·exact hI.dis r s b p1 p2
  ·have := hI.lt r b p1; have := (hB j b p2).1; omega
  ·have := hI.lt s b p2; have := (hB i b p1).1; omega
  ·rw [hdis i j b p1 p2]
 ·rcases cs r b hr with ⟨_, p1⟩ | ⟨i, rfl, p1⟩
  ·exact Nat.lt_of_lt_of_le (hI.lt r b p1) hb.size
  ·exact (hB i b p1).2
 ·rcases cs r b hr with ⟨_, p1⟩ | ⟨i, rfl, p1⟩
  ·exact hI.new r b p1
  ·exact .inl (Nat.le_trans hI.size (hB i b p1).1)
 ·rw [qak (by rfl)]
  exact hI.bxβ q b hq
 ·rcases cs r b hr with ⟨_, p1⟩ | ⟨i, rfl, p1⟩
  ·exact hI.okβ r b p1
  ·exact hI.okN.1 b (Nat.le_trans hI.size (hB i b p1).1)
 ·obtain ⟨b, h1, h2⟩ := hI.boxes q x hx
  exact ⟨b, h1, h2.site hI.lt hb (fun j b hj => (hB j b hj).1) fun l hl => qhc hS (hl ▸ hx)⟩
theorem qby {g : List Id} {id : Id} {b : Nat} (hokβ : ∀ r b, M.β r b -> M.ok b) (hdis : ∀ r s b, M.β r b -> M.β s b -> r = s) (hid : id ∈ g) (hb : M.β id b) (hlt : b < w.heap.size) : avoid M w g b :=
 ⟨hlt, fun r hr hq => hr (by rw [hdis r id b hq hb]; exact hid), hokβ _ _ hb⟩
theorem qaH {e : TypeId} {k : IntKind} {z : Bool} {l : List Int} {g : List Id} {sep : Bool} {id : Id} {v : Value} (hokβ : ∀ r b, M.β r b -> M.ok b) (hdis : ∀ r s b, M.β r b -> M.β s b -> r = s) (hsz : szOf P e = 1)
  (hown : w.ownsRow 0 e 1 v l.length (l.map (.int k))) (hid : id ∈ g) (hβ : ∀ b, v.ownBlock = some b -> M.β id b) (hhd : M.hd id = v) (hz : z = true ↔ v = .slice none 0 0) :
  VrG P M w ⟨.nums e k z l, g, sep, some id⟩ v := by
 have hown' := hown
 rcases hown.2 with ⟨rfl, h0⟩ | ⟨b, cap, cur, rfl, _, hh, hnc, hcm, hcs, htake⟩
 ·have : l = [] := List.eq_nil_of_length_eq_zero h0
  subst this
  refine ⟨.nums none 0 0 _ _ _ _ rfl (by simpa using hz) (by omega) (fun _ => rfl) (Nat.le_refl _) (fun j hj => by omega), fun _ => .nilN _ _ _ _, fun id' hid' => ?_⟩
  simp at hid'
  subst hid'
  exact ⟨hid, hhd, hown', hsz, hβ⟩
 ·have hbl : b < w.heap.size := (Array.getElem?_eq_some_iff.1 hh).1
  have hbβ := hβ b rfl
  have hcell : ∀ j, j < l.length -> w.cell? ⟨b, j, none⟩ = some (.int k (l.getD j 0)) := fun j hj => by
   have := hown.cellAt j (by omega)
   rw [this]
   simp [List.getD_eq_getElem?_getD, hj]
  refine ⟨.nums _ _ _ _ _ _ _ rfl ?_ (by simp only [maxLen] at hcm; omega) (fun h => by simp at h) hnc (fun j hj => ⟨_, rfl, qby hokβ hdis hid hbβ hbl, by rw [add_plain', Nat.zero_add]; exact hcell j hj⟩), fun _ => ?_, fun id' hid' => ?_⟩
  ·cases z
   ·rfl
   ·have := hz.1 rfl
    simp at this
  ·exact .nums _ _ _ _ _ _ _ _ _ _ rfl ⟨id, hid, hbβ⟩ rfl hh (by simp; omega) ⟨hown', hsz⟩
  ·simp at hid'
   subst hid'
   exact ⟨hid, hhd, hown', hsz, hβ⟩
theorem qcK {e : TypeId} {z : Bool} {xs : List T} {g : List Id} {sep : Bool} {id : Id} {v : Value} {cs : List Value} (hokβ : ∀ r b, M.β r b -> M.ok b) (hdis : ∀ r s b, M.β r b -> M.β s b -> r = s) (hsz : 0 < szOf P e)
  (hty : (cellTys P depth e).length = szOf P e) (hok : ∀ x ∈ xs, okT P e x = true)
  (hown : w.ownsRow 0 e (szOf P e) v xs.length cs) (hid : id ∈ g) (hβ : ∀ b, v.ownBlock = some b -> M.β id b) (hhd : M.hd id = v) (hz : z = true ↔ v = .slice none 0 0)
  (hr : ∀ i j, i < xs.length -> j < szOf P e -> Rd P w (fun q => avoid M w g q /\ v.ownBlock ≠ some q) (cs.getD (i * szOf P e + j) undef) ((xs.getD i .bad).cells.getD j .bad))
  (hsep : sep = true -> ∃ Bs : Nat -> Nat -> Prop, (∀ j b, Bs j b -> inside M g b /\ v.ownBlock ≠ some b) /\ (∀ i j b, Bs i b -> Bs j b -> i = j) /\
   ∀ i j, i < xs.length -> j < szOf P e -> Sep P w (Bs (i * szOf P e + j)) (cs.getD (i * szOf P e + j) undef) ((xs.getD i .bad).cells.getD j .bad)) :
  VrG P M w ⟨.sl e z xs, g, sep, some id⟩ v := by
 have hown' := hown
 have same : ∀ A : Nat -> Prop, Same A w w := fun A b hb => rfl
 have hO : Own P M w g id v (.sl e z xs) := ⟨cs, hown', hsz, hβ, fun b hb i j hi hj => (hr i j hi hj).keep (same _) fun q hq => ⟨hq.1, fun h => hq.2 (by rw [hb, h])⟩⟩
 rcases hown.2 with ⟨rfl, h0⟩ | ⟨b, cap, cur, rfl, _, hh, hnc, hcm, hcs, htake⟩
 ·have : xs = [] := List.eq_nil_of_length_eq_zero h0
  subst this
  refine ⟨.sl none 0 0 _ _ _ (fun _ => undef) rfl (by simpa using hz) (by omega) (fun _ => rfl) (Nat.le_refl _) (fun h => by omega) hok (fun h => by omega) (fun i j hi => by omega), fun _ => .nilS _ _ _, fun id' hid' => ?_⟩
  simp at hid'
  subst hid'
  exact ⟨hid, hhd, hO⟩
 ·have hbl : b < w.heap.size := (Array.getElem?_eq_some_iff.1 hh).1
  have hbβ := hβ b rfl
  have hcell : ∀ j, j < xs.length * szOf P e -> w.cell? ⟨b, j, none⟩ = some (cs.getD j undef) := fun j hj => by
   have := hown.cellAt j hj
   rw [this, List.getD_eq_getElem?_getD, List.getElem?_eq_getElem (by have := hown.1; omega)]
   rfl
  refine ⟨.sl _ _ _ _ _ _ (fun j => cs.getD j undef) rfl ?_ (by simp only [maxLen] at hcm; omega) (fun h => by simp at h) hnc (fun _ => hty) hok
   (fun hp => ⟨_, rfl, qby hokβ hdis hid hbβ hbl, fun j hj => by rw [add_plain', Nat.zero_add]; exact hcell j hj⟩) (fun i j hi hj => (hr i j hi hj).keep (same _) fun q hq => hq.1), fun hs => ?_, fun id' hid' => ?_⟩
  ·cases z
   ·rfl
   ·have := hz.1 rfl
    simp at this
  ·obtain ⟨Bs, q1, q2, q3⟩ := hsep hs
   refine .sl _ _ _ _ _ _ _ _ _ (fun j => cs.getD j undef) Bs rfl ⟨id, hid, hbβ⟩ rfl hh ?_ ⟨⟨cs, hown'⟩, hsz⟩ (fun j hj => by rw [add_plain', Nat.zero_add]; exact hcell j hj) (fun j b' hj => ⟨(q1 j b' hj).1, fun h => (q1 j b' hj).2 (by rw [h]; rfl)⟩) q2 q3
   have : xs.length * szOf P e <= cap * szOf P e := Nat.mul_le_mul_right _ hnc
   simp
   omega
  ·simp at hid'
   subst hid'
   exact ⟨hid, hhd, hO⟩
theorem qac {vs : List V} {x : V} {r : Id} (hx : x ∈ vs) (hr : r ∈ x.g) : r ∈ gs vs := List.mem_flatMap.2 ⟨x, hx, hr⟩
theorem qU {a b : List Id} (h : meets a b = false) : ∀ r ∈ a, r ∉ b := fun r hr hb => by
 have := List.any_eq_false.1 h r hr
 simp [hb] at this
theorem qbw : ∀ {u : List Id} {l : List V}, apart u l = true -> (∀ x ∈ l, x.sep = true /\ ∀ r ∈ x.g, r ∉ u) /\ ∀ i j, i < j -> j < l.length -> ∀ r ∈ (l.getD i V.bad).g, r ∉ (l.getD j V.bad).g
 | u, [], _ => ⟨fun x hx => by simp at hx, fun i j _ hj => by simp at hj⟩
 | u, x :: xs, h => by
  simp only [apart, Bool.and_eq_true, Bool.not_eq_true'] at h
  obtain ⟨⟨h1, h2⟩, h3⟩ := h
  obtain ⟨q1, q2⟩ := qbw h3
  refine ⟨fun y hy => ?_, fun i j hij hj r hr hr' => ?_⟩
  ·rcases List.mem_cons.1 hy with rfl | hy
   ·exact ⟨h1, qU h2⟩
   ·exact ⟨(q1 y hy).1, fun r hr hu => (q1 y hy).2 r hr (List.mem_append_right _ hu)⟩
  ·obtain ⟨j, rfl⟩ : ∃ m, j = m + 1 := ⟨j - 1, by omega⟩
   simp only [List.getD_cons_succ] at hr'
   have hj' : j < xs.length := by simpa using hj
   cases i with
   | zero =>
    simp only [List.getD_cons_zero] at hr
    have hm : xs.getD j V.bad ∈ xs := by rw [List.getD_eq_getElem?_getD, List.getElem?_eq_getElem hj']; simp
    exact (q1 _ hm).2 r hr' (List.mem_append_left _ hr)
   | succ i => exact q2 i j (by omega) hj' r (by simpa using hr) hr'
end
end Go.Proofs.YthocpcfjfgnkgaaGreatRv
namespace Go.Proofs.YthocpcfjfgnkgaaGreatRv
open Go Go.RowKit
set_option linter.unusedVariables false
set_option linter.unusedSimpArgs false
section
variable {P : Program} {M : Mdl} {w : World} {S : St} {a : Act} {E : Env} {C : CallSem} {R : Type}
def Made (P : Program) (M : Mdl) (w : World) (a : Act) (d : Nat) (o : Oper) (K : TV -> Option R) (r : R) : Prop :=
 ∃ tv v w' B hv, K tv = some r /\ (execOp a.eval o).run P w = .ok (.value v) w' /\ Below w.heap.size w w' /\ (∀ j b, B j b -> w.heap.size <= b /\ b < w'.heap.size) /\ (∀ i j b, B i b -> B j b -> i = j) /\ TVr P (M.site d B hv) w' tv v
theorem qjP (n : Nat) (cs : Array Value) (h : cs.size = n) : VrL P M w (List.replicate n V.bad) cs := by
 refine ⟨by simp [h], fun i hi => ?_⟩
 simp only [List.length_replicate] at hi
 rw [List.getD_eq_getElem?_getD, List.getElem?_replicate, if_pos hi]
 exact fun h => (h rfl).elim
theorem qda {e : TypeId} : ∀ (parts : List (Nat × Operand)) (k : Nat) (vss : List (List V)) (pre : List V), litElems P S e parts k = some vss -> okTy P e = true -> pre.length = k * szOf P e ->
  buildCells P S (fun i => some (i * szOf P e, e)) (pre ++ List.replicate (parts.length * szOf P e) V.bad) parts = some (pre ++ vss.flatten) /\ vss.length = parts.length /\ ∀ vs ∈ vss, okCells P (cellTys P depth e) vs = true
 | [], k, vss, pre, h, ht, hp => by simp [litElems] at h; subst h; simp [buildCells]
 | (i, x) :: rest, k, vss, pre, h, ht, hp => by
  simp only [litElems] at h
  split at h
  ·rename_i vs hi hvs
   split at h
   ·rename_i hok
    split at h
    ·rename_i r hr
     simp at h
     subst h
     have hik : i = k := by simpa using hi
     subst hik
     have hlen := (qz hok).1
     rw [List.length_map] at hlen
     obtain ⟨_, _, _, _, _, q4, _⟩ := unsome ht
     have e0 : lay (pre ++ List.replicate ((rest.length + 1) * szOf P e) V.bad) (i * szOf P e) vs = (pre ++ vs) ++ List.replicate (rest.length * szOf P e) V.bad := by
      unfold lay
      rw [<- hp, List.take_left, <- List.length_append, List.drop_append, List.append_assoc, List.append_assoc]
      congr 2
      rw [List.drop_replicate, List.length_append]
      have : (rest.length + 1) * szOf P e = rest.length * szOf P e + szOf P e := by rw [Nat.add_mul, Nat.one_mul]
      have e1 : (rest.length + 1) * szOf P e - (pre.length + vs.length - pre.length) = rest.length * szOf P e := by omega
      rw [e1, List.drop_of_length_le (by simp)]
      simp
     obtain ⟨h1, h2, h3⟩ := qda rest (i + 1) r (pre ++ vs) hr ht (by rw [List.length_append, hp, hlen, Nat.add_mul, Nat.one_mul, q4])
     refine ⟨?_, by simp [h2], fun vs' hvs' => ?_⟩
     ·simp only [buildCells, hvs, ht, hok, List.length_cons, Bool.true_and, e0]
      have hle : i * szOf P e + vs.length <= (pre ++ List.replicate ((rest.length + 1) * szOf P e) V.bad).length := by
       have : (rest.length + 1) * szOf P e = rest.length * szOf P e + szOf P e := by rw [Nat.add_mul, Nat.one_mul]
       simp
       omega
      rw [decide_eq_true hle]
      simpa [List.append_assoc] using h1
     ·rcases List.mem_cons.1 hvs' with rfl | hm
      ·exact hok
      ·exact h3 vs' hm
    ·simp at h
   ·simp at h
  ·simp at h
theorem qbR {α : Type} (d : α) (n : Nat) : ∀ (ll : List (List α)), (∀ l ∈ ll, l.length = n) -> ∀ i j, i < ll.length -> j < n -> ll.flatten.getD (i * n + j) d = (ll.getD i []).getD j d
 | [], _, i, j, hi, _ => by simp at hi
 | l :: ll, h, i, j, hi, hj => by
  have hl := h l (List.mem_cons_self ..)
  cases i with
  | zero =>
   simp only [List.flatten_cons, Nat.zero_mul, Nat.zero_add, List.getD_cons_zero]
   rw [List.getD_eq_getElem?_getD, List.getD_eq_getElem?_getD, List.getElem?_append_left (by omega)]
  | succ i =>
   have := qbR d n ll (fun l hl => h l (List.mem_cons_of_mem _ hl)) i j (by simpa using hi) hj
   simp only [List.flatten_cons, List.getD_cons_succ]
   rw [<- this, List.getD_eq_getElem?_getD, List.getD_eq_getElem?_getD, List.getElem?_append_right (by rw [Nat.add_mul]; omega)]
   congr 2
   rw [Nat.add_mul]
   omega
theorem qbW {α : Type} (n : Nat) : ∀ (ll : List (List α)), (∀ l ∈ ll, l.length = n) -> ll.flatten.length = ll.length * n
 | [], _ => by simp
 | l :: ll, h => by
  rw [List.flatten_cons, List.length_append, qbW n ll (fun l hl => h l (List.mem_cons_of_mem _ hl)), h l (List.mem_cons_self ..), List.length_cons, Nat.add_mul]
  omega
theorem qcn {e : TypeId} {vs : List V} (h : okCells P (cellTys P depth e) vs = true) : okT P e (elemT P e vs) = true /\ (elemT P e vs).cells = vs.map (·.t) := by
 unfold elemT okT
 cases hagg : isAgg P e with
 | true => exact ⟨h, rfl⟩
 | false =>
  rw [qaP hagg] at h
  have hl := (qz h).1
  match vs, hl, h with
  | [v], _, h =>
   have := (qz h).2 0 e rfl
   simp at this
   exact ⟨this, by rw [(qR this).1]; rfl⟩
theorem run_buildSlice' (hR : Rel P E M S a w) {t e : TypeId} {n : Nat} {parts : Array (Nat × Operand)} {vss : List (List V)} (hund : P.underlying t = some (.slice e)) (hl : litElems P S e parts.toList 0 = some vss) (ht : okTy P e = true)
  (hn : vss.length = n) (hsmall : n * szOf P e <= 16777216) (hz : (P.info? e).any (fun i => i.zero.isSome) = true) :
  ∃ cs : Array Value, (Instr.buildSlice t n (parts.map fun (i, x) => (i, a.eval x))).run P w = .ok (.slice (some ⟨w.heap.size, 0, none⟩) n n) (w.alloc (.cells cs e)) /\ cs.size = n * szOf P e /\ VrL P M w vss.flatten cs := by
 obtain ⟨d, inf, q1, q2, q3, q4, q5⟩ := unsome ht
 obtain ⟨h1, h2, h3⟩ := qda parts.toList 0 vss [] hl ht (by simp)
 have hpn : parts.toList.length = n := by omega
 simp only [q2, Option.any_some] at hz
 obtain ⟨z, hz⟩ := Option.isSome_iff_exists.1 hz
 let init : Array Value := (Array.range (n * szOf P e)).map fun i => (if n * szOf P e = 0 then #[] else z.cells)[i % (if n * szOf P e = 0 then (#[] : Array Value) else z.cells).size]!
 have hinit : init.size = n * szOf P e := by simp [init]
 rw [hpn] at h1
 obtain ⟨cs', r1, r2⟩ := qdX hR (cplace := fun i => some (i * szOf P e, szOf P e)) (fun i off t hp => by
  simp at hp
  obtain ⟨rfl, rfl⟩ := hp
  rfl) _ _ _ _ h1 (by simpa using qjP (n * szOf P e) init hinit)
 have hlen : ∀ vs ∈ vss, vs.length = szOf P e := fun vs hvs => by
  have := (qz (h3 vs hvs)).1
  rw [List.length_map] at this
  omega
 refine ⟨cs', ?_, ?_, by simpa using r2⟩
 ·have hparts : (parts.map fun (i, x) => (i, a.eval x)).toList = parts.toList.map fun p => (p.1, a.eval p.2) := by simp
  unfold Instr.buildSlice
  simp only [Sem.run_bind, run_underlying hund, Result.andThen_ok, qQ q2]
  have hns : ¬ (n * szOf P e > 2 ^ 24) := by omega
  simp only [hns, if_false, Sem.run_bind, Sem.run_pure, Result.andThen_ok]
  rw [hparts]
  have r1' : Instr.fill (fun i => some (i * szOf P e, szOf P e)) init (parts.toList.map fun p => (p.1, a.eval p.2)) = some cs' := r1
  by_cases h0 : n * szOf P e = 0
  ·simp only [init, if_pos h0] at r1'
   simp only [if_pos h0, Sem.run_bind, Sem.run_pure, Result.andThen_ok]
   rw [r1']
   simp only [newRow, newObj, Sem.run_bind, Sem.run, Result.andThen_ok]
   rfl
  ·simp only [init, if_neg h0] at r1'
   have hzv : (zeroValue e).run P w = .ok z w := by simp [zeroValue, typeInfo, q2, hz]
   simp only [if_neg h0, Sem.run_bind, Sem.run_pure, Result.andThen_ok, hzv]
   rw [r1']
   simp only [newRow, newObj, Sem.run_bind, Sem.run, Result.andThen_ok]
   rfl
 ·have := r2.1
  simp only [List.nil_append] at this
  rw [this, qbW _ _ hlen, hn]
theorem below_alloc' (w : World) (o : Obj) : Below w.heap.size w (w.alloc o) := (Below.refl _ _).alloc (Nat.le_refl _) o
theorem qjI {e : TypeId} {k : IntKind} {x : T} (h : ok1 P e x = true) (hk : intOf? P e = some k) : x = .int k x.toInt := by
 have := qaV hk
 unfold ok1 at h
 rw [this] at h
 cases x <;> simp at h
 simp [h, T.toInt]
theorem qG (vs : List V) (j : Nat) (h : j < vs.length) : (vs.map (·.t)).getD j .bad = (vs.getD j V.bad).t := by
 simp [List.getD_eq_getElem?_getD, h]
theorem qeu {o : Oper} {t : TypeId} {n d : Nat} {parts : Array (Nat × Operand)} (ho : o.op = .buildSlice t n parts) (hd : o.dst = some d) (hR : Rel P E M S a w) (hS : S.has (ofSite d) = false) {K : TV -> Option R} {r : R}
  (h : (quiet P S o).go C K = some r) : Made P M w a d o K r := by
 unfold quiet at h
 simp only [ho, hd] at h
 split at h
 ·rename_i e d' hund hd'
  cases hd'
  split at h
  ·rename_i vss hl
   obtain ⟨c0, h1⟩ := qh h
   clear h
   simp only [Bool.and_eq_true, beq_iff_eq, decide_eq_true_eq] at c0
   obtain ⟨⟨⟨c1, c2⟩, c3⟩, c4⟩ := c0
   obtain ⟨cs, hrun, hcs, hvr⟩ := run_buildSlice' hR hund hl c2 c1 c3 c4
   obtain ⟨_, _, _, _, _, q4, q5⟩ := unsome c2
   obtain ⟨_, _, hoks⟩ := qda parts.toList 0 vss [] hl c2 (by simp)
   have hlen : ∀ vs ∈ vss, vs.length = szOf P e := fun vs hvs => by
    have := (qz (hoks vs hvs)).1
    rw [List.length_map] at this
    omega
   let v : Value := .slice (some ⟨w.heap.size, 0, none⟩) n n
   let B : Nat -> Nat -> Prop := fun j b => j = 0 /\ b = w.heap.size
   let M' := M.site d B (fun _ => v)
   let w' := w.alloc (.cells cs e)
   have hbel : Below w.heap.size w w' := below_alloc' _ _
   have hsize : w'.heap.size = w.heap.size + 1 := World.size_alloc _ _
   have hB : ∀ j b, B j b -> w.heap.size <= b /\ b < w'.heap.size := fun j b hb => by rw [hb.2, hsize]; omega
   have hBd : ∀ i j b, B i b -> B j b -> i = j := fun i j b h1 h2 => by rw [h1.1, h2.1]
   have hR' : Rel P E M' S a w' := hR.site hbel hB hBd hS
   have hnm : n <= maxLen := by
    have : n * 1 <= n * szOf P e := Nat.mul_le_mul_left _ q5
    simp [maxLen]
    omega
   have hown : w'.ownsRow 0 e (szOf P e) v n cs.toList := World.ownsRow_lit w cs n (Nat.zero_le _) hnm hcs
   have hβ : ∀ b, v.ownBlock = some b -> M'.β (.n d 0) b := fun b hb => by
    have : w.heap.size = b := by simpa [v, Value.ownBlock] using hb
    rw [qN]
    exact ⟨rfl, this.symm⟩
   have hhd : M'.hd (.n d 0) = v := by simp [M', Mdl.site, hd_n]
   have hz : (false = true) ↔ v = .slice none 0 0 := by simp [v]
   have hall : vss.flatten.length = n * szOf P e := by rw [qbW _ _ hlen, c1]
   split at h1
   ·rename_i k hk
    obtain ⟨c5, h1⟩ := qh h1
    simp only [beq_iff_eq] at c5
    refine ⟨_, v, w', B, fun _ => v, qj h1, ?_, hbel, hB, hBd, fun _ => ?_⟩
    ·simp only [execOp, ho]
     rw [Sem.run_bind, hrun]
     rfl
    ·have hl' : (vss.map fun vs => (elemT P e vs).toInt).length = n := by simp [c1]
     have ecs : cs.toList = (vss.map fun vs => (elemT P e vs).toInt).map (.int k) := by
      apply List.ext_getElem (by simp [hcs, c1, c5])
      intro i h1 h2
      have hi : i < vss.length := by simpa using h2
      have hm : vss[i] ∈ vss := List.getElem_mem hi
      have h3 := qcn (hoks _ hm)
      have hx := hvr.2 i (by rw [hall, c5]; omega)
      have hfg := qbR V.bad (szOf P e) vss hlen i 0 hi q5
      rw [c5, Nat.mul_one, Nat.add_zero] at hfg
      rw [hfg] at hx
      have e1 : vss.getD i [] = vss[i] := by simp [List.getD_eq_getElem?_getD, hi]
      rw [e1] at hx
      have hagg : isAgg P e = false := by simp [isAgg, qaV hk]
      have h4 := h3.1
      unfold okT at h4
      rw [hagg] at h4
      have h5 := qjI h4 hk
      have h6 : (vss[i].getD 0 V.bad).t = elemT P e vss[i] := by
       have := hlen _ hm
       rw [c5] at this
       unfold elemT
       rw [hagg]
       match hvi : vss[i], this with
       | [x], _ => rfl
      have h7 := (hx (by rw [h6, h5]; simp)).rd
      rw [h6, h5] at h7
      have h8 := h7.int_inv
      rw [Array.getD_eq_getD_getElem?, Array.getElem?_eq_getElem (by omega)] at h8
      simp at h8
      simp [h8]
     have := qaH (P := P) (sep := true) hR'.inv.okβ hR'.inv.dis c5 (k := k) (l := vss.map fun vs => (elemT P e vs).toInt) (by rw [hl', <- ecs, <- c5]; exact hown) (by simp) hβ hhd hz (g := [.n d 0])
     exact this
   ·rename_i hk
    obtain ⟨c5, h1⟩ := qh h1
    simp only [Bool.and_eq_true, beq_iff_eq, Bool.not_eq_true'] at c5
    obtain ⟨c5, c6⟩ := c5
    refine ⟨_, v, w', B, fun _ => v, qj h1, ?_, hbel, hB, hBd, fun _ => ?_⟩
    ·simp only [execOp, ho]
     rw [Sem.run_bind, hrun]
     rfl
    ·have hxs : (vss.map (elemT P e)).length = n := by simp [c1]
     have hget : ∀ i, i < n -> (vss.map (elemT P e)).getD i .bad = elemT P e (vss.getD i []) := fun i hi => by
      simp [List.getD_eq_getElem?_getD, show i < vss.length by omega]
     have hmem : ∀ i, i < n -> vss.getD i [] ∈ vss := fun i hi => by
      rw [List.getD_eq_getElem?_getD, List.getElem?_eq_getElem (by omega)]
      simp
     -- what a cell holds
     have hcell : ∀ i j, i < n -> j < szOf P e -> ∃ x, x ∈ vss.flatten /\ x = vss.flatten.getD (i * szOf P e + j) V.bad /\ (elemT P e (vss.getD i [])).cells.getD j .bad = x.t /\ VrG P M w x (cs.toList.getD (i * szOf P e + j) undef) := by
      intro i j hi hj
      have hb : i * szOf P e + j < vss.flatten.length := by
       have : (i + 1) * szOf P e <= n * szOf P e := Nat.mul_le_mul_right _ hi
       rw [Nat.add_mul, Nat.one_mul] at this
       omega
      have hm := hmem i hi
      have hfg := qbR V.bad (szOf P e) vss hlen i j (by omega) hj
      refine ⟨vss.flatten.getD (i * szOf P e + j) V.bad, by rw [List.getD_eq_getElem?_getD, List.getElem?_eq_getElem hb]; simp, rfl, ?_, ?_⟩
      ·have := hlen _ hm
       rw [(qcn (hoks _ hm)).2, hfg, qG _ _ (by omega)]
      ·have h1 := (qz (hoks _ hm)).2 j (cellTys P depth e)[j] (List.getElem?_eq_getElem (by omega))
       have h2 := (qR h1).2.1
       have h3 := hvr.2 _ hb
       have e4 : cs.toList.getD (i * szOf P e + j) undef = cs.getD (i * szOf P e + j) undef := by
        simp [List.getD_eq_getElem?_getD, Array.getD_eq_getD_getElem?]
       rw [e4]
       refine h3 ?_
       have := hlen _ hm
       rw [qG _ _ (by omega)] at h2
       rw [hfg]
       exact h2
     refine qcK (cs := cs.toList) hR'.inv.okβ hR'.inv.dis q5 c5 (fun x hx => ?_) (by rw [hxs]; exact hown) (by simp) hβ hhd hz (fun i j hi hj => ?_) (fun hs => ?_)
     ·obtain ⟨vs, hvs, rfl⟩ := List.mem_map.1 hx
      exact (qcn (hoks _ hvs)).1
     ·rw [hxs] at hi
      obtain ⟨x, hx, ex, e1, hv⟩ := hcell i j hi hj
      rw [hget i hi, e1]
      refine hv.rd.keep (fun b hb => hbel.block b hb.1) fun b hb => ⟨⟨Nat.lt_of_lt_of_le hb.1 hbel.size, fun r hr hq => ?_, hb.2.2⟩, fun hq => ?_⟩
      ·cases hs : ofSite d r with
       | false =>
        rw [qak hs] at hq
        exact hb.2.1 r (fun hm => hr (List.mem_cons_of_mem _ (qac hx hm))) hq
       | true =>
        obtain ⟨j', rfl⟩ := qK hs
        rw [qN] at hq
        have := hq.2
        have := hb.1
        omega
      ·have : w.heap.size = b := by simpa [v, Value.ownBlock] using hq
       have := hb.1
       omega
     ·obtain ⟨p1, p2⟩ := qbw hs
      refine ⟨fun q b => q < n * szOf P e /\ inside M (vss.flatten.getD q V.bad).g b, fun q b hb => ⟨?_, fun hq => ?_⟩, fun q q' b hb hb' => ?_, fun i j hi hj => ?_⟩
      ·obtain ⟨hq, r, hr, hrb⟩ := hb
       have hm : vss.flatten.getD q V.bad ∈ vss.flatten := by rw [List.getD_eq_getElem?_getD, List.getElem?_eq_getElem (by omega)]; simp
       have hns : ofSite d r = false := by
        have := List.any_eq_false.1 c6 r (qac hm hr)
        simpa using this
       exact ⟨r, List.mem_cons_of_mem _ (qac hm hr), by rw [qak hns]; exact hrb⟩
      ·obtain ⟨_, r, hr, hrb⟩ := hb
       have : w.heap.size = b := by simpa [v, Value.ownBlock] using hq
       have := hR.inv.lt r b hrb
       omega
      ·obtain ⟨hq, r, hr, hrb⟩ := hb
       obtain ⟨hq', s, hs', hsb⟩ := hb'
       have := hR.inv.dis r s b hrb hsb
       subst this
       rcases Nat.lt_trichotomy q q' with hlt | heq | hgt
       ·exact absurd hs' (p2 q q' hlt (by omega) r hr)
       ·exact heq
       ·exact absurd hr (p2 q' q hgt (by omega) r hs')
      ·rw [hxs] at hi
       obtain ⟨x, hx, ex, e1, hv⟩ := hcell i j hi hj
       rw [hget i hi, e1]
       have hb : i * szOf P e + j < n * szOf P e := by
        have : (i + 1) * szOf P e <= n * szOf P e := Nat.mul_le_mul_right _ hi
        rw [Nat.add_mul, Nat.one_mul] at this
        omega
       refine ((hv.sep (p1 x hx).1).keep fun b ⟨r, _, hr⟩ => hbel.block b (hR.inv.lt r b hr)).mono fun b hb' => ⟨hb, ?_⟩
       rw [<- ex]
       exact hb'
  ·exact (qg h).elim
 ·exact (qg h).elim
theorem qeK {w' : World} (h : w.grownBy w' none) : Below w.heap.size w w' := ⟨h.os, h.tape, h.output, h.size, fun k hk => h.block k hk (by simp)⟩
theorem qgP {b n : Nat} (hb : b ≠ 0) (h : n < room b) : b * n <= 140737488355328 := by
 unfold room at h
 have := Nat.div_mul_le_self 140737488355328 b
 have h2 : n * b <= 140737488355328 / b * b := Nat.mul_le_mul_right _ (Nat.le_of_lt h)
 rw [Nat.mul_comm]
 omega
theorem qfG {z : Array Value} {n i j : Nat} (hz : 0 < z.size) (hi : i < n) (hj : j < z.size) : (madeCells z (n * z.size)).toList.getD (i * z.size + j) undef = z.getD j undef := by
 have hb : i * z.size + j < n * z.size := by
  have : (i + 1) * z.size <= n * z.size := Nat.mul_le_mul_right _ hi
  rw [Nat.add_mul, Nat.one_mul] at this
  omega
 have hm : (i * z.size + j) % z.size = j := by rw [Nat.mul_comm, Nat.mul_add_mod, Nat.mod_eq_of_lt hj]
 simp [madeCells, List.getD_eq_getElem?_getD, Array.getD_eq_getD_getElem?, hb, hm, hj]
theorem qiD {t : TypeId} {v : Value} (h : (zeroV P t v).t ≠ .bad) : (∀ w A, Rd P w A v (zeroV P t v).t) /\ ∀ w B, Sep P w B v (zeroV P t v).t := by
 unfold zeroV constTV at *
 split at h
 ·rename_i x e
  split at e <;> first
   | (cases e; exact ⟨fun w A => .int _ _, fun w B => .scalar _ _ _ rfl⟩)
   | (cases e; exact ⟨fun w A => .bool _, fun w B => .scalar _ _ _ rfl⟩)
   | (cases e; exact ⟨fun w A => .str _, fun w B => .scalar _ _ _ rfl⟩)
   | (cases e; exact ⟨fun w A => .nf, fun w B => .scalar _ _ _ rfl⟩)
   | (cases e; exact ⟨fun w A => .ni, fun w B => .scalar _ _ _ rfl⟩)
   | (cases e; done)
   | skip
  cases e
  simp only [V.s, nilT] at h ⊢
  split at h
  ·split at h
   ·exact ⟨fun w A => .nums none 0 0 _ _ true [] rfl rfl (by omega) (fun _ => rfl) (Nat.le_refl _) (fun j hj => by omega), fun w B => .nilN _ _ _ _⟩
   ·exact ⟨fun w A => .sl none 0 0 _ true [] (fun _ => undef) rfl rfl (by omega) (fun _ => rfl) (Nat.le_refl _) (fun h => by omega) (fun x hx => by simp at hx) (fun h => by omega) (fun i j hi => by omega), fun w B => .nilS _ _ _⟩
  ·exact (h rfl).elim
 ·exact (h rfl).elim
theorem qeJ {o : Oper} {t : TypeId} {x y : Operand} {d : Nat} (ho : o.op = .makeSlice t x y) (hd : o.dst = some d) (hR : Rel P E M S a w) (hS : S.has (ofSite d) = false) {K : TV -> Option R} {r : R}
  (h : (quiet P S o).go C K = some r) : Made P M w a d o K r := by
 unfold quiet at h
 simp only [ho, hd] at h
 have hx := ev_r hR 0 x
 have hy := ev_r hR 0 y
 split at h
 ·rename_i e d' va vb hund hd' e1 e2
  cases hd'
  rw [e1] at hx
  rw [e2] at hy
  split at h
  ·rename_i kl j kc j' h1 h2
   obtain ⟨c1, g1⟩ := qv h
   obtain ⟨c2, g2⟩ := qv g1
   obtain ⟨c3, g3⟩ := qv g2
   obtain ⟨c4, g4⟩ := qh g3
   clear h g1 g2 g3
   have c1 := of_decide_eq_true c1
   have c2 := of_decide_eq_true c2
   have c3 := of_decide_eq_true c3
   subst c1
   simp only [Bool.and_eq_true, bne_iff_ne, ne_eq] at c4
   obtain ⟨⟨ht, hbz⟩, hz⟩ := c4
   obtain ⟨_, inf, q1, q2, q3, q4, q5⟩ := unsome ht
   simp only [q2, Option.any_some] at hz
   obtain ⟨z, hz⟩ := Option.isSome_iff_exists.1 hz
   have hbytes : bytesOf P e = inf.bytes := by simp [bytesOf, q2]
   rw [hbytes] at hbz c3
   have hroom := qgP hbz c3
   have hnm : j.toNat <= maxLen := by
    have : 1 * j.toNat <= inf.bytes * j.toNat := Nat.mul_le_mul_right _ (by omega)
    simp [maxLen]
    omega
   have ezc : zeroCells P e = z.cells.toList := by simp [zeroCells, q2, hz]
   obtain ⟨w', hrun, hown, hg⟩ := run_make_full (P := P) w 0 t e inf z (szOf P e) hund q2 hz q3 kl kc j.toNat (by omega) hnm (Nat.zero_le _)
   rw [show ((j.toNat : Nat) : Int) = j by omega] at hrun
   let v : Value := .slice (some ⟨w.heap.size, 0, none⟩) j.toNat j.toNat
   let B : Nat -> Nat -> Prop := fun q b => q = 0 /\ b = w.heap.size
   let M' := M.site d B (fun _ => v)
   have hbel : Below w.heap.size w w' := qeK hg
   have hlt : w.heap.size < w'.heap.size := by
    rcases hown.2 with ⟨hv, _⟩ | ⟨g, cap, cur, hv, _, hh, _⟩
    ·simp at hv
    ·simp at hv
     obtain ⟨rfl, _⟩ := hv
     exact (Array.getElem?_eq_some_iff.1 hh).1
   have hB : ∀ q b, B q b -> w.heap.size <= b /\ b < w'.heap.size := fun q b hb => by rw [hb.2]; omega
   have hBd : ∀ i q b, B i b -> B q b -> i = q := fun i q b h1 h2 => by rw [h1.1, h2.1]
   have hR' : Rel P E M' S a w' := hR.site hbel hB hBd hS
   have hβ : ∀ b, v.ownBlock = some b -> M'.β (.n d 0) b := fun b hb => by
    have : w.heap.size = b := by simpa [v, Value.ownBlock] using hb
    rw [qN]
    exact ⟨rfl, this.symm⟩
   have hhd : M'.hd (.n d 0) = v := by simp [M', Mdl.site, hd_n]
   have hzz : (false = true) ↔ v = .slice none 0 0 := by simp [v]
   have hexec : (execOp a.eval o).run P w = .ok (.value v) w' := by
    simp only [execOp, ho, qy hx h1, qy hy h2]
    rw [Sem.run_bind, hrun]
    rfl
   split at g4
   ·rename_i k hk
    obtain ⟨c5, g5⟩ := qh g4
    simp only [Bool.and_eq_true, beq_iff_eq] at c5
    obtain ⟨c5, c6⟩ := c5
    refine ⟨_, v, w', B, fun _ => v, qj g5, hexec, hbel, hB, hBd, fun _ => ?_⟩
    split at c6
    ·rename_i k' hzc
     simp only [beq_iff_eq] at c6
     subst c6
     rw [ezc] at hzc
     have ezz : z.cells = #[.int k' 0] := by
      apply Array.toList_inj.1
      simpa using hzc
     have ecs : (madeCells z.cells (j.toNat * szOf P e)).toList = (List.replicate j.toNat (0 : Int)).map (.int k') := by
      rw [ezz, c5, Nat.mul_one, toList_madeCells_one]
      simp
     rw [ecs, c5] at hown
     exact qaH (P := P) (sep := true) hR'.inv.okβ hR'.inv.dis c5 (by simpa using hown) (by simp) hβ hhd hzz
    ·simp at c6
   ·rename_i hk
    obtain ⟨c5, g5⟩ := qh g4
    simp only [Bool.and_eq_true, beq_iff_eq] at c5
    obtain ⟨⟨c5, c6⟩, c7⟩ := c5
    refine ⟨_, v, w', B, fun _ => v, qj g5, hexec, hbel, hB, hBd, fun _ => ?_⟩
    have hzl := (qz c5).1
    rw [List.length_map] at hzl
    have hzs : z.cells.size = szOf P e := by
     rw [ezc] at c6
     simp at c6
     omega
    have helem := qcn c5
    have hcell : ∀ i q, i < j.toNat -> q < szOf P e -> (∀ w A, Rd P w A ((madeCells z.cells (j.toNat * szOf P e)).toList.getD (i * szOf P e + q) undef) ((elemT P e (zeros P e)).cells.getD q .bad)) /\
      ∀ w B, Sep P w B ((madeCells z.cells (j.toNat * szOf P e)).toList.getD (i * szOf P e + q) undef) ((elemT P e (zeros P e)).cells.getD q .bad) := by
     intro i q hi hq
     have hq' : q < (zeros P e).length := by omega
     have e3 := qfG (z := z.cells) (n := j.toNat) (i := i) (j := q) (by omega) hi (by omega)
     rw [hzs] at e3
     rw [e3, helem.2, qG _ _ hq']
     have h1 := (qz c5).2 q (cellTys P depth e)[q] (List.getElem?_eq_getElem (by omega))
     have h2 := (qR h1).2.1
     rw [qG _ _ hq'] at h2
     have e4 : (zeros P e).getD q V.bad = zeroV P (cellTys P depth e)[q] (z.cells.getD q undef) := by
      have hq2 : q < z.cells.toList.length := by simp; omega
      simp [zeros, ezc, List.getD_eq_getElem?_getD, List.getElem?_zipWith, List.getElem?_eq_getElem (show q < (cellTys P depth e).length by omega), Array.getD_eq_getD_getElem?, show q < z.cells.size by omega]
     rw [e4] at h2 ⊢
     exact qiD h2
    have hxs : (List.replicate j.toNat (elemT P e (zeros P e))).length = j.toNat := by simp
    have hget : ∀ i, i < j.toNat -> (List.replicate j.toNat (elemT P e (zeros P e))).getD i .bad = elemT P e (zeros P e) := fun i hi => by
     simp [List.getD_eq_getElem?_getD, hi]
    refine qcK hR'.inv.okβ hR'.inv.dis q5 q4.symm (fun x hx => ?_) (by rw [hxs]; exact hown) (by simp) hβ hhd hzz (fun i q hi hq => ?_) (fun hs => ⟨fun _ _ => False, fun _ _ hb => hb.elim, fun _ _ _ hb => hb.elim, fun i q hi hq => ?_⟩)
    ·rw [List.mem_replicate] at hx
     rw [hx.2]
     exact helem.1
    ·rw [hxs] at hi
     rw [hget i hi]
     exact (hcell i q hi hq).1 _ _
    ·rw [hxs] at hi
     rw [hget i hi]
     exact (hcell i q hi hq).2 _ _
  ·exact (qg h).elim
 ·exact (qg h).elim
end
end Go.Proofs.YthocpcfjfgnkgaaGreatRv
namespace Go.Proofs.YthocpcfjfgnkgaaGreatRv
open Go Go.RowKit
set_option linter.unusedVariables false
set_option linter.unusedSimpArgs false
def Hd (P : Program) (w : World) (B : Nat -> Prop) (v : Value) : T -> Prop
 | .nums e k z l => w.ownsRow 0 e 1 v l.length (l.map (.int k)) /\ szOf P e = 1 /\ ∀ b, v.ownBlock = some b -> B b
 | .sl e z l => (∃ cs, w.ownsRow 0 e (szOf P e) v l.length cs) /\ 0 < szOf P e /\ ∀ b, v.ownBlock = some b -> B b
 | _ => False
def CellR (P : Program) (w : World) (A B : Nat -> Prop) (c : T × Bool) (v : Value) : Prop :=
 match c.2 && !c.1.scalar with
 | true => Rd P w B v c.1 /\ Sep P w B v c.1 /\ Hd P w B v c.1
 | false => Rd P w A v c.1
structure Hand where
 bk : Nat -> Nat
 cs : Nat -> Nat -> Nat -> Prop
def ArgR (P : Program) (w : World) (A : Nat -> Prop) (H : Hand) (i : Nat) : Arg -> Value -> Prop
 | .v t, v => Rd P w A v t
 | .box l, v => v = .pointer (some ⟨H.bk i, 0, none⟩) /\ ∃ cs ty, w.heap[H.bk i]? = some (.cells cs ty (0, 0)) /\ cs.size = l.length /\ ∀ j, j < l.length -> CellR P w A (H.cs i j) (l.getD j (.bad, false)) (cs.getD j undef)
 | .own t, v => False
def isBox (args : List Arg) (i : Nat) : Prop := ∃ l, args[i]? = some (.box l)
def Handed (args : List Arg) (H : Hand) (b : Nat) : Prop := ∃ i, isBox args i /\ (b = H.bk i ∨ ∃ j, H.cs i j b)
structure ArgsR (P : Program) (w : World) (A : Nat -> Prop) (H : Hand) (args : List Arg) (vs : Array Value) : Prop where
 size : vs.size = args.length
 arg : ∀ i x, args[i]? = some x -> ArgR P w A H i x (vs.getD i undef)
 lt : ∀ b, Handed args H b -> b < w.heap.size
 gl : GL w
 glA : ∀ b, b < glN -> A b
 A : ∀ b, A b -> b < w.heap.size /\ ¬ Handed args H b
 d1 : ∀ i i', isBox args i -> isBox args i' -> H.bk i = H.bk i' -> i = i'
 d2 : ∀ i i' j j' b, isBox args i -> isBox args i' -> H.cs i j b -> H.cs i' j' b -> i = i' /\ j = j'
 d3 : ∀ i i' j, isBox args i -> isBox args i' -> ¬ H.cs i j (H.bk i')
def RetR (P : Program) (w : World) (A : Nat -> Prop) (n0 : Nat) (G : Nat -> Nat -> Prop) (k : Nat) : Ret -> Value -> Prop
 | .vals false l, v => ∃ c, l = [c] /\ CellR P w A (G k) c v
 | .vals true l, v => ∃ us, v = .agg us /\ us.size = l.length /\ ∀ j, j < l.length -> CellR P w A (G (k + j)) (l.getD j (.bad, false)) (us.getD j undef)
 | .box l, v => ∃ b cs ty, v = .pointer (some ⟨b, 0, none⟩) /\ n0 <= b /\ ¬ A b /\ (∀ j, ¬ G j b) /\ w.heap[b]? = some (.cells cs ty (0, 0)) /\ cs.size = l.length /\ ∀ j, j < l.length -> CellR P w A (G (k + j)) (l.getD j (.bad, false)) (cs.getD j undef)
def Ret.len : Ret -> Nat
 | .vals _ l => l.length
 | .box l => l.length
def RetsR (P : Program) (w : World) (A : Nat -> Prop) (n0 : Nat) (G : Nat -> Nat -> Prop) : Nat -> List Ret -> List Value -> Prop
 | _, [], [] => True
 | k, r :: rs, v :: vs => RetR P w A n0 G k r v /\ RetsR P w A n0 G (k + r.len) rs vs
 | _, _, _ => False
def OutsR (P : Program) (w : World) (A : Nat -> Prop) (H : Hand) (G : Nat -> Nat -> Prop) : Nat -> Nat -> List Arg -> List (List (T × Bool)) -> Prop
 | _, _, [], [] => True
 | k, i, .box l0 :: as, l :: os => l.length = l0.length /\ (∃ cs ty, w.heap[H.bk i]? = some (.cells cs ty (0, 0)) /\ cs.size = l.length /\ ∀ j, j < l.length -> CellR P w A (G (k + j)) (l.getD j (.bad, false)) (cs.getD j undef)) /\ OutsR P w A H G (k + l.length) (i + 1) as os
 | k, i, .v _ :: as, os => OutsR P w A H G k (i + 1) as os
 | _, _, _, _ => False
def retV (vs : List Value) : Value := match vs with | [v] => v | vs => .tuple vs.toArray
def totLen : List Ret -> Nat
 | [] => 0
 | r :: rs => r.len + totLen rs
def restA (w w' : World) (A : Nat -> Prop) (H : Hand) (args : List Arg) (G : Nat -> Nat -> Prop) (Z : Nat -> Prop) (b : Nat) : Prop :=
 (A b ∨ w.heap.size <= b ∨ Handed args H b) /\ b < w'.heap.size /\ (∀ j, ¬ G j b) /\ (∀ i, isBox args i -> b ≠ H.bk i) /\ ¬ Z b
def After (P : Program) (w : World) (A : Nat -> Prop) (H : Hand) (args : List Arg) (res : Res) (e : Ending) (w' : World) : Prop :=
 ∃ vs G Z, e = .returned (retV vs) /\ w'.os = w.os /\ w'.tape = w.tape /\ w'.output = w.output /\ w.heap.size <= w'.heap.size /\ (∀ b, b < w.heap.size -> ¬ Handed args H b -> w'.heap[b]? = w.heap[b]?) /\
  (∀ j b, G j b -> (w.heap.size <= b ∨ Handed args H b) /\ b < w'.heap.size /\ ∀ i, isBox args i -> b ≠ H.bk i) /\ (∀ i j b, G i b -> G j b -> i = j) /\
  RetsR P w' (restA w w' A H args G Z) w.heap.size G 0 res.rets vs /\
  OutsR P w' (restA w w' A H args G Z) H G (totLen res.rets) 0 args res.outs
def MarkR (P : Program) (f : FuncId) (ag : Bool) (l : List T) (n : Int) (l' : List T) (m : Int) : Prop :=
 ∀ (w : World) (us : Array Value) (cs : Nat -> Nat -> Prop), us.size = l.length -> (∀ j, j < l.length -> CellR P w (fun _ => False) (cs j) (l.getD j .bad, true) (us.getD j undef)) -> (∀ j b, cs j b -> b < w.heap.size) -> (∀ i j b, cs i b -> cs j b -> i = j) -> (GL w /\ ∀ b, b < glN -> b < w.heap.size /\ ∀ j, ¬ cs j b) ->
  Calls P f #[(match ag with | true => .agg us | false => us.getD 0 undef), .int .i64 n] w fun e w' => e = .returned (.int .i64 m) /\ w'.os = w.os /\ w'.tape = w.tape /\ w'.output = w.output /\ w.heap.size <= w'.heap.size /\ (∀ b, b < w.heap.size -> (∀ j, ¬ cs j b) -> w'.heap[b]? = w.heap[b]?) /\
   ∃ cs' : Nat -> Nat -> Prop, (∀ j b, cs' j b -> (w.heap.size <= b ∨ ∃ i, cs i b) /\ b < w'.heap.size) /\ (∀ i j b, cs' i b -> cs' j b -> i = j) /\ ∀ j, j < l'.length -> (l'.getD j .bad).scalar = false -> CellR P w' (fun _ => False) (cs' j) (l'.getD j .bad, true) (us.getD j undef)
def SoundM1 (P : Program) (f : FuncId) (g : List Arg -> Option Res) : Prop :=
 ∀ t n l' m, g [.own t, .v (.int .i64 n)] = some (markRes l' m) -> MarkR P f (agOf t) t.cells n l' m
def SortR (P : Program) (f : FuncId) (l l' : List T) : Prop :=
 ∀ (w : World) (us : Array Value) (cs : Nat -> Nat -> Prop), us.size = l.length -> (∀ j, j < l.length -> CellR P w (fun _ => False) (cs j) (l.getD j .bad, true) (us.getD j undef)) -> (∀ j b, cs j b -> b < w.heap.size) -> (∀ i j b, cs i b -> cs j b -> i = j) -> (GL w /\ ∀ b, b < glN -> b < w.heap.size /\ ∀ j, ¬ cs j b) ->
  Calls P f #[us.getD 0 undef] w fun e w' => e = .returned (.tuple #[]) /\ w'.os = w.os /\ w'.tape = w.tape /\ w'.output = w.output /\ w.heap.size <= w'.heap.size /\ (∀ b, b < w.heap.size -> (∀ j, ¬ cs j b) -> w'.heap[b]? = w.heap[b]?) /\
   ∃ cs' : Nat -> Nat -> Prop, (∀ j b, cs' j b -> (w.heap.size <= b ∨ ∃ i, cs i b) /\ b < w'.heap.size) /\ (∀ i j b, cs' i b -> cs' j b -> i = j) /\ ∀ j, j < l'.length -> (l'.getD j .bad).scalar = false -> CellR P w' (fun _ => False) (cs' j) (l'.getD j .bad, true) (us.getD j undef)
def CutR (P : Program) (f : FuncId) (e : TypeId) (k : IntKind) (z : Bool) (l : List Int) (z' : Bool) (l' : List Int) : Prop :=
 ∀ (w : World) (v : Value), w.ownsRow 0 e 1 v l.length (l.map (.int k)) -> (z = true ↔ v = .slice none 0 0) -> szOf P e = 1 -> (GL w /\ ∀ b, b < glN -> b < w.heap.size /\ v.ownBlock ≠ some b) ->
  Calls P f #[v] w fun x w' => ∃ v', x = .returned v' /\ w.grownBy w' v.ownBlock /\ (v'.ownBlock = v.ownBlock ∨ v'.ownBlock = some w.heap.size) /\ w'.ownsRow 0 e 1 v' l'.length (l'.map (.int k)) /\ (z' = true ↔ v' = .slice none 0 0)
def SoundS1 (P : Program) (f : FuncId) (g : List Arg -> Option Res) : Prop :=
 (∀ t l', g [.own t] = some (sortRes l') -> SortR P f [t] l') /\ ∀ e k z l z' l', g [.own (.nums e k z l)] = some (cutRes (.nums e k z' l')) -> CutR P f e k z l z' l'
def SoundMk (P : Program) (f : FuncId) (g : List Arg -> Option Res) : Prop := SoundM1 P f g /\ SoundS1 P f g
def SoundC (P : Program) (C : CallSem) : Prop :=
 (∀ f args res, (C f args).val = some res -> ∀ (w : World) (vs : Array Value) (A : Nat -> Prop) (H : Hand), ArgsR P w A H args vs -> Calls P f vs w (After P w A H args res)) /\ ∀ f, SoundMk P f fun a => (C f a).val
section
variable {P : Program} {M : Mdl} {w : World} {S : St} {a : Act} {E : Env} {C : CallSem} {R : Type}
theorem Rd.inside {A : Nat -> Prop} {v : Value} {x : T} (h : Rd P w A v x) : ∀ {B : Nat -> Prop}, Sep P w B v x -> Rd P w B v x := by
 induction h with
 | int k n => exact fun _ => .int _ _
 | bool b => exact fun _ => .bool _
 | str s => exact fun _ => .str _
 | nf => exact fun _ => .nf
 | ni => exact fun _ => .ni
 | nums a n cap e k z l hn hz hm hcap hnc hc =>
  intro B hs
  refine .nums a n cap e k z l hn hz hm hcap hnc fun j hj => ?_
  obtain ⟨ad, e1, e2, e3⟩ := hc j hj
  subst e1
  cases hs with
  | scalar _ _ _ h => simp [T.scalar] at h
  | nums _ _ _ _ _ _ _ _ _ _ _ hb => exact ⟨ad, rfl, hb, e3⟩
 | sl a n cap e z l c hn hz hm hcap hnc hsz hs' hp hr ih =>
  intro B hs
  refine .sl a n cap e z l c hn hz hm hcap hnc hsz hs' (fun h0 => ?_) fun i j hi hj => ?_
  ·obtain ⟨ad, e1, e2, e3⟩ := hp h0
   subst e1
   cases hs with
   | scalar _ _ _ h => simp [T.scalar] at h
   | sl _ _ _ _ _ _ _ _ _ _ _ _ hb => exact ⟨ad, rfl, hb, e3⟩
  ·obtain ⟨ad, e1, e2, e3⟩ := hp (by omega)
   subst e1
   cases hs with
   | scalar _ _ _ h => simp [T.scalar] at h
   | sl _ _ _ _ _ _ _ _ _ c' Bs _ hb _ _ _ _ hc hsub hdis hr' =>
    have hb' : i * szOf P e + j < n * szOf P e := by
     have : (i + 1) * szOf P e <= n * szOf P e := Nat.mul_le_mul_right _ hi
     rw [Nat.add_mul, Nat.one_mul] at this
     omega
    have e4 : c' (i * szOf P e + j) = c (i * szOf P e + j) := by
     have h1 := hc _ hb'
     have h2 := e3 _ hb'
     rw [h1] at h2
     exact Option.some.inj h2
    have h5 := hr' i j hi hj
    rw [e4] at h5
    exact (ih i j hi hj h5).keep (fun b hb => rfl) fun b hb => (hsub _ b hb).1
 | agg vs l hn hr ih =>
  intro B hs
  cases hs with
  | scalar _ _ _ h => simp [T.scalar] at h
  | agg _ _ _ Bs _ hsub hdis hr' => exact .agg vs l hn fun i hi => (ih i hi (hr' i hi)).keep (fun b hb => rfl) fun b hb => hsub _ b hb
 | ptr ad l c hA hc hr ih =>
  intro B hs
  cases hs with
  | scalar _ _ _ h => simp [T.scalar] at h
 | fn f vs l hn hr ih =>
  intro B hs
  cases hs with
  | scalar _ _ _ h => simp [T.scalar] at h
theorem qcz {B : Nat -> Prop} {t : T} {v : Value} {g : List Id} {id : Id} (hokβ : ∀ r b, M.β r b -> M.ok b) (hdis : ∀ r s b, M.β r b -> M.β s b -> r = s) (hrd : Rd P w B v t) (hs : Sep P w B v t) (hh : Hd P w B v t)
  (hid : id ∈ g) (hB : ∀ b, B b -> M.β id b) (hlt : ∀ b, B b -> b < w.heap.size) (hhd : M.hd id = v) : VrG P M w ⟨t, g, true, some id⟩ v := by
 have hBa : ∀ b, B b -> avoid M w g b := fun b hb => qby hokβ hdis hid (hB b hb) (hlt b hb)
 refine ⟨hrd.keep (fun b hb => rfl) hBa, fun _ => hs.mono fun b hb => ⟨id, hid, hB b hb⟩, fun id' hid' => ?_⟩
 simp at hid'
 subst hid'
 refine ⟨hid, hhd, ?_⟩
 cases t with
 | nums e k z l => exact ⟨hh.1, hh.2.1, fun b hb => hB b (hh.2.2 b hb)⟩
 | sl e z l =>
  obtain ⟨⟨cs, h1⟩, h2, h3⟩ := hh
  refine ⟨cs, h1, h2, fun b hb => hB b (h3 b hb), fun b hb i j hi hj => ?_⟩
  have h1' := h1
  rcases h1.2 with ⟨rfl, h0⟩ | ⟨q, cap, cur, rfl, _, hh', hnc, hcm, hcs, htake⟩
  ·omega
  ·have hqb : q = b := by simpa [Value.ownBlock] using hb
   subst hqb
   cases hs with
   | scalar _ _ _ h => simp [T.scalar] at h
   | sl _ _ _ _ _ _ _ _ _ c' Bs _ hbb _ _ _ _ hc hsub hdis' hr' =>
    cases hrd with
    | sl _ _ _ _ _ _ c'' hn hz hm hcap hnc' hsz hs' hp hr =>
    have hb' : i * szOf P e + j < l.length * szOf P e := by
     have : (i + 1) * szOf P e <= l.length * szOf P e := Nat.mul_le_mul_right _ hi
     rw [Nat.add_mul, Nat.one_mul] at this
     omega
    obtain ⟨ad, e1, e2, e3⟩ := hp (by omega)
    cases e1
    have e4 : c' (i * szOf P e + j) = c'' (i * szOf P e + j) := by
     have h1 := hc _ hb'
     have h2 := e3 _ hb'
     rw [h1] at h2
     exact Option.some.inj h2
    have e5 : cs.getD (i * szOf P e + j) undef = c'' (i * szOf P e + j) := by
     have h6 := h1'.cellAt _ hb'
     have h7 := e3 _ hb'
     rw [add_plain', Nat.zero_add, h6] at h7
     rw [List.getD_eq_getElem?_getD, h7]
     rfl
    have h8 := hr' i j hi hj
    rw [e4] at h8
    rw [e5]
    exact ((hr i j hi hj).inside h8).keep (fun b hb => rfl) fun b hb => ⟨hBa b (hsub _ b hb).1, (hsub _ b hb).2⟩
 | _ => exact hh.elim
theorem qbi : ∀ (ts : List TypeId) (xs : List Operand) (as : List (Arg × List Id)), argsOf P S ts xs = some as -> as.length = xs.length /\ ∀ (i : Nat) (p : Arg × List Id), as[i]? = some p -> ∃ x t, xs[i]? = some x /\ argOf S (ev P S t x) = some p
 | _, [], as, h => by simp [argsOf] at h; subst h; exact ⟨rfl, fun i p h => by simp at h⟩
 | ts, x :: xs, as, h => by
  simp only [argsOf] at h
  split at h
  ·simp at h
  ·rename_i p hp
   split at h
   ·rename_i r hr
    simp at h
    subst h
    obtain ⟨h1, h2⟩ := qbi ts.tail xs r hr
    refine ⟨by simp [h1], fun i q hq => ?_⟩
    cases i with
    | zero => simp at hq; subst hq; exact ⟨x, ts.headD 0, rfl, hp⟩
    | succ i =>
     obtain ⟨y, t, h3, h4⟩ := h2 i q (by simpa using hq)
     exact ⟨y, t, by simpa using h3, h4⟩
   ·simp at h
theorem qbZ {l : List V} (h : l.any (·.t.isBad) = false) {i : Nat} (hi : i < l.length) : (l.getD i V.bad).t ≠ .bad := fun e => by
 have := List.any_eq_false.1 h (l.getD i V.bad) (by rw [List.getD_eq_getElem?_getD, List.getElem?_eq_getElem hi]; simp)
 rw [e] at this
 simp [T.isBad] at this
theorem qjx (hR : Rel P E M S a w) {x : Operand} {t : TypeId} {y : T} {g : List Id} (h : argOf S (ev P S t x) = some (.v y, g)) : Rd P w (avoid M w g) (a.eval x) y := by
 have hx := ev_r hR t x
 unfold argOf at h
 split at h
 ·rename_i va e
  rw [e] at hx
  split at h
  ·simp at h
  ·rename_i hb
   simp at h
   obtain ⟨rfl, rfl⟩ := h
   exact (hx (qbp (by simp [hb]))).rd
 ·rename_i l e
  rw [e] at hx
  split at h
  ·simp at h
  ·rename_i hb
   simp at h
   obtain ⟨rfl, rfl⟩ := h
   obtain ⟨us, hv, hl, hc⟩ := hx
   rw [hv]
   refine .agg us _ (by simp [hl]) fun i hi => ?_
   have hi' : i < l.length := by simpa using hi
   rw [qG _ _ hi']
   refine (hc i hi' (qbZ hb hi')).rd.keep (fun b hb => rfl) fun b hb => ⟨hb.1, fun r hr => hb.2.1 r fun hm => hr ?_, hb.2.2⟩
   exact qac (by rw [List.getD_eq_getElem?_getD, List.getElem?_eq_getElem hi']; simp) hm
 ·split at h
  ·split at h <;> simp at h
  ·simp at h
 ·simp at h
theorem qao {o : Oper} {f : Operand} {args : Array Operand} {ts : Array TypeId} {g : FuncId} {cs : Array Value} (ho : o.op = .call { callee := .value f, args := args, argTypes := ts }) (hf : a.eval f = .func (.func g) #[] cs)
  (hst : isStatic P g = true) : (execOp a.eval o).run P w = .ok (.enter g (args.map a.eval ++ cs)) w := by
 unfold isStatic at hst
 split at hst
 ·rename_i fn hfn
  simp only [Bool.and_eq_true, bne_iff_ne, ne_eq] at hst
  have h1 : execOp a.eval o = (do let d <- Deferred.ofValue (a.eval f) (args.map a.eval); invoke d.target d.args) := by
   unfold execOp
   rw [ho]
   rfl
  rw [h1, hf]
  simp only [Deferred.ofValue, Sem.run_bind, Sem.run_pure, Result.andThen_ok, invoke, callFunc, run_program, hfn]
  rw [if_neg (by simpa using hst.2)]
  have : fn.body.isNone = false := by
   cases hb : fn.body with
   | none => simp [hb] at hst
   | some c => rfl
  rw [if_neg (by simp [this])]
  simp
 ·simp at hst
def back1 (d : Nat) (g : List Id) (j : Nat) (c : T × Bool) : V := match c.1.scalar with
 | true => V.s c.1
 | false => (match c.2 with | true => ⟨c.1, [.n d j], true, some (.n d j)⟩ | false => ⟨c.1, g, false, none⟩)
theorem qbJ (d : Nat) (g : List Id) : ∀ (l : List (T × Bool)) (j : Nat), (backV d g j l).length = l.length /\ ∀ i, i < l.length -> (backV d g j l).getD i V.bad = back1 d g (j + i) (l.getD i (.bad, false))
 | [], j => ⟨rfl, fun i hi => by simp at hi⟩
 | (t, own) :: rest, j => by
  obtain ⟨h1, h2⟩ := qbJ d g rest (j + 1)
  refine ⟨by simp [backV, h1], fun i hi => ?_⟩
  cases i with
  | zero => simp only [backV, back1, List.getD_cons_zero]; cases t.scalar <;> cases own <;> rfl
  | succ i =>
   simp only [backV, List.getD_cons_succ]
   rw [h2 i (by simpa using hi)]
   congr 1
   omega
theorem qbE {w' : World} {A' : Nat -> Prop} {d j : Nat} {g : List Id} {G : Nat -> Nat -> Prop} {hv : Nat -> Value} {c : T × Bool} {v : Value} (hnew : ∀ j, M.β (.n d j) = G j) (hhd : ∀ j, M.hd (.n d j) = hv j) (hokβ : ∀ r b, M.β r b -> M.ok b)
  (hdis : ∀ r s b, M.β r b -> M.β s b -> r = s) (h : CellR P w' A' (G j) c v) (hlt : ∀ b, G j b -> b < w'.heap.size) (hhv : hv j = v)
  (hA : ∀ b, A' b -> avoid M w' g b) : Vr P M w' (back1 d g j c) v := by
 unfold back1
 unfold CellR at h
 cases hs : c.1.scalar with
 | true =>
  rw [hs] at h
  simp at h
  exact vr_s h hs
 | false =>
  rw [hs] at h
  cases ho : c.2 with
  | true =>
   rw [ho] at h
   simp at h
   obtain ⟨h1, h2, h3⟩ := h
   exact fun _ => qcz hokβ hdis h1 h2 h3 (by simp) (fun b hb => by rw [hnew]; exact hb) hlt (by rw [hhd, hhv])
  | false =>
   rw [ho] at h
   simp at h
   exact fun _ => ⟨h.keep (fun b hb => rfl) hA, fun h => by simp at h, fun id hid => by simp at hid⟩
def allVals : List Ret -> List Value -> List Value
 | .vals false _ :: rs, v :: vs => v :: allVals rs vs
 | .vals true l :: rs, v :: vs => (match v with | .agg us => us.toList | _ => List.replicate l.length undef) ++ allVals rs vs
 | .box l :: rs, _ :: vs => List.replicate l.length undef ++ allVals rs vs
 | _, _ => []
theorem qbV {w' : World} {A' : Nat -> Prop} {d : Nat} {g : List Id} {G : Nat -> Nat -> Prop} {hv : Nat -> Value} {n0 : Nat} (hnew : ∀ j, M.β (.n d j) = G j) (hhd : ∀ j, M.hd (.n d j) = hv j) (hokβ : ∀ r b, M.β r b -> M.ok b)
  (hdis : ∀ r s b, M.β r b -> M.β s b -> r = s) (hlt : ∀ j b, G j b -> b < w'.heap.size) (hA : ∀ b, A' b -> avoid M w' g b) :
  ∀ (rs : List Ret) (vs : List Value) (k : Nat) (cs : List (Bool × List V)), RetsR P w' A' n0 G k rs vs -> backComps d g k rs = some cs -> (∀ i, i < (allVals rs vs).length -> hv (k + i) = (allVals rs vs).getD i undef) ->
   cs.length = vs.length /\ rs.length = vs.length /\ ∀ i, i < cs.length -> CompR P M w' (cs.getD i (true, [])) (vs.getD i undef)
 | [], [], k, cs, _, h, _ => by simp [backComps] at h; subst h; exact ⟨rfl, rfl, fun i hi => by simp at hi⟩
 | [], _ :: _, k, cs, h, _, _ => h.elim
 | _ :: _, [], k, cs, h, _, _ => by cases h
 | r :: rs, v :: vs, k, cs, h, hb, hhv => by
  obtain ⟨h1, h2⟩ := h
  cases r with
  | box l => simp [backComps] at hb
  | vals ag l =>
   simp only [backComps] at hb
   split at hb
   ·rename_i cs' hcs'
    simp at hb
    subst hb
    have hlen : ∀ i, i < (allVals rs vs).length -> hv (k + l.length + i) = (allVals rs vs).getD i undef := by
     intro i hi
     cases ag with
     | false =>
      obtain ⟨c, hl, _⟩ := h1
      subst hl
      have := hhv (i + 1) (by simp [allVals]; omega)
      simpa [allVals, Nat.add_comm, Nat.add_left_comm] using this
     | true =>
      obtain ⟨us, hv', hus, _⟩ := h1
      subst hv'
      have := hhv (l.length + i) (by simp [allVals, hus]; omega)
      rw [Nat.add_assoc, this]
      simp only [allVals, List.getD_eq_getElem?_getD]
      rw [List.getElem?_append_right (by simp [hus])]
      simp [hus]
    obtain ⟨q1, q2, q3⟩ := qbV hnew hhd hokβ hdis hlt hA rs vs (k + l.length) cs' h2 hcs' hlen
    obtain ⟨b1, b2⟩ := qbJ d g l k
    refine ⟨by simp [q1], by simp [q2], fun i hi => ?_⟩
    cases i with
    | succ i => simpa using q3 i (by simpa using hi)
    | zero =>
     simp only [List.getD_cons_zero]
     cases ag with
     | false =>
      obtain ⟨c, hl, hc⟩ := h1
      subst hl
      have e0 : backV d g k [c] = [back1 d g k c] := by
       obtain ⟨t, own⟩ := c
       simp only [backV, back1] <;> cases t.scalar <;> cases own <;> rfl
      rw [e0]
      have := hhv 0 (by simp [allVals])
      simp [allVals] at this
      exact qbE hnew hhd hokβ hdis hc (hlt k) this hA
     | true =>
      obtain ⟨us, hv', hus, hc⟩ := h1
      subst hv'
      refine ⟨us, rfl, by rw [b1, hus], fun j hj => ?_⟩
      rw [b1] at hj
      rw [b2 j hj]
      refine qbE hnew hhd hokβ hdis (hc j hj) (hlt _) ?_ hA
      have := hhv j (by simp [allVals]; omega)
      rw [this]
      simp only [allVals, List.getD_eq_getElem?_getD]
      rw [List.getElem?_append_left (by simp; omega)]
      simp [Array.getD_eq_getD_getElem?]
   ·simp at hb
theorem qiF (hC : SoundC P C) {o : Oper} {f : Operand} {args : Array Operand} {ts : Array TypeId} {d : Nat} (ho : o.op = .call { callee := .value f, args := args, argTypes := ts }) (hd : o.dst.getD 0 = d) (hR : Rel P E M S a w)
  (hS : S.has (ofSite d) = false) {K : TV -> Option R} {r : R} (h : (quiet P S o).go C K = some r) {next : Act -> World -> Prop} {Q : Exit -> Act -> World -> Prop}
  (hn : ∀ tv v w' B hv, K tv = some r -> Below w.heap.size w w' -> (∀ j b, B j b -> w.heap.size <= b /\ b < w'.heap.size) -> (∀ i j b, B i b -> B j b -> i = j) -> TVr P (M.site d B hv) w' tv v -> next (a.put o.dst v) w') :
  o.wp P a w next Q := by
 unfold quiet at h
 simp only [ho, hd] at h
 have hf := ev_r hR 0 f
 split at h
 ·rename_i x e
  rw [e] at hf
  split at h
  ·rename_i g caps hx
   have hfv := hf (by rw [hx]; simp)
   have hfr := hfv.rd
   rw [hx] at hfr
   unfold callTV at h
   obtain ⟨c1, h⟩ := qh h
   split at h
   ·exact (qg h).elim
   ·rename_i as has
    obtain ⟨c2, h⟩ := qh h
    generalize hfe : a.eval f = fv at hfr
    cases hfr with
    | fn _ cvs _ hcn hcr =>
    obtain ⟨hl, hg⟩ := qbi _ _ _ has
    simp only [Tr.go] at h
    obtain ⟨x0, hx0, h⟩ := Option.bind_eq_some_iff.1 h
    have hres := Ans.val_some hx0
    generalize (C _ _).enc x0 = res at hres h
    let gAll := as.flatMap (·.2) ++ x.g
    let A := avoid M w gAll
    let H : Hand := ⟨fun _ => 0, fun _ _ _ => False⟩
    have hv : ∀ (i : Nat) (p : Arg × List Id), as[i]? = some p -> ∃ y, p.1 = .v y := fun i p hp => by
     have := List.all_eq_true.1 c2 p (List.mem_of_getElem? hp)
     split at this
     ·rename_i y hy; exact ⟨y, hy⟩
     ·simp at this
    have hnb : ∀ i, ¬ isBox (as.map (·.1) ++ caps.map .v) i := fun i ⟨l, hl⟩ => by
     rw [List.getElem?_append] at hl
     split at hl
     ·rw [List.getElem?_map] at hl
      cases hp : as[i]? with
      | none => rw [hp] at hl; simp at hl
      | some p =>
       obtain ⟨y, hy⟩ := hv i p hp
       rw [hp] at hl; simp [hy] at hl
     ·rw [List.getElem?_map] at hl
      cases hp : caps[i - (as.map (·.1)).length]? with
      | none => rw [hp] at hl; simp at hl
      | some p => rw [hp] at hl; simp at hl
    have hsub : ∀ {gg : List Id}, (∀ q ∈ gg, q ∈ gAll) -> ∀ b, avoid M w gg b -> A b := fun hs b hb => ⟨hb.1, fun q hq => hb.2.1 q fun hm => hq (hs q hm), hb.2.2⟩
    have hargs : ArgsR P w A H (as.map (·.1) ++ caps.map .v) (args.map a.eval ++ cvs) := by
     refine ⟨by simp [hl, hcn], fun i y hy => ?_, fun b ⟨i, hi, _⟩ => (hnb i hi).elim, hR.inv.gl.1, fun b hb => (hR.inv.gl.2 b hb).2 _, fun b hb => ⟨hb.1, fun ⟨i, hi, _⟩ => (hnb i hi).elim⟩, fun i _ hi => (hnb i hi).elim, fun i _ _ _ _ hi => (hnb i hi).elim, fun i _ _ hi => (hnb i hi).elim⟩
     rw [List.getElem?_append] at hy
     have hla : (as.map (·.1)).length = args.size := by simpa using hl
     split at hy
     ·rename_i hlt
      rw [List.getElem?_map] at hy
      cases hp : as[i]? with
      | none => rw [hp] at hy; simp at hy
      | some p =>
       obtain ⟨yy, hyy⟩ := hv i p hp
       obtain ⟨q, t, h3, h4⟩ := hg i p hp
       rw [hp] at hy; simp at hy
       subst hy
       obtain ⟨p1, p2⟩ := p
       simp only at hyy
       subst hyy
       have := (qjx hR h4).keep (fun b hb => rfl) (hsub fun q hq => List.mem_append_left _ (List.mem_flatMap.2 ⟨_, List.mem_of_getElem? hp, hq⟩))
       have e5 : (args.map a.eval ++ cvs).getD i undef = a.eval q := by
        have h3' : args[i]? = some q := by simpa using h3
        rw [Array.getD_eq_getD_getElem?, Array.getElem?_append_left (by simp; omega)]
        simp [h3']
       rw [e5]
       exact this
     ·rename_i hge
      rw [List.getElem?_map] at hy
      cases hp : caps[i - (as.map (·.1)).length]? with
      | none => rw [hp] at hy; simp at hy
      | some p =>
       rw [hp] at hy; simp at hy
       subst hy
       have hi2 : i - (as.map (·.1)).length < caps.length := (List.getElem?_eq_some_iff.1 hp).1
       have := hcr _ hi2
       have e6 : caps.getD (i - (as.map (·.1)).length) .bad = p := by rw [List.getD_eq_getElem?_getD, hp]; rfl
       rw [e6] at this
       have e5 : (args.map a.eval ++ cvs).getD i undef = cvs.getD (i - (as.map (·.1)).length) undef := by
        rw [Array.getD_eq_getD_getElem?, Array.getElem?_append_right (by simp; omega), Array.getD_eq_getD_getElem?]
        simp [hla]
       rw [e5]
       exact this.keep (fun b hb => rfl) (hsub fun q hq => List.mem_append_right _ hq)
    have hcall := hC.1 g _ res hres w _ A H hargs
    unfold Oper.wp
    rw [qao ho hfe c1]
    unfold Oper.upon
    refine Calls.mono hcall fun e w' hafter => ?_
    obtain ⟨vs, G, Z, rfl, p1, p2, p3, p4, p5, p6, p7, p8, p9⟩ := hafter
    have hnh : ∀ b, ¬ Handed (as.map (·.1) ++ caps.map .v) H b := fun b ⟨i, hi, _⟩ => hnb i hi
    have hbel : Below w.heap.size w w' := ⟨p1, p2, p3, p4, fun b hb => p5 b hb (hnh b)⟩
    have hG : ∀ j b, G j b -> w.heap.size <= b /\ b < w'.heap.size := fun j b hb => ⟨(p6 j b hb).1.resolve_right (hnh b), (p6 j b hb).2.1⟩
    let hv' : Nat -> Value := fun j => (allVals res.rets vs).getD j undef
    have hR' : Rel P E (M.site d G hv') S a w' := hR.site hbel hG p7 hS
    have hA'' : ∀ b, restA w w' A H (as.map (·.1) ++ caps.map .v) G Z b -> avoid (M.site d G hv') w' gAll b := by
     intro b ⟨hb, hb2, hb3, _⟩
     refine ⟨hb2, fun q hq hβ => ?_, ?_⟩
     ·cases hs : ofSite d q with
      | true =>
       obtain ⟨j, rfl⟩ := qK hs
       rw [qN] at hβ
       exact hb3 j hβ
      | false =>
       rw [qak hs] at hβ
       rcases hb with hb | hb | hb
       ·exact hb.2.1 q hq hβ
       ·have := hR.inv.lt q b hβ; omega
       ·exact hnh b hb
     ·rcases hb with hb | hb | hb
      ·exact hb.2.2
      ·exact hR.inv.okN.1 b (Nat.le_trans hR.inv.size hb)
      ·exact (hnh b hb).elim
    have hcomp := fun cs (hcs : backComps d gAll 0 res.rets = some cs) => qbV (P := P) (M := M.site d G hv') (hv := hv') (n0 := w.heap.size) (fun j => qN j) (fun j => by simp [Mdl.site, hd_n]) hR'.inv.okβ hR'.inv.dis (fun j b hb => (hG j b hb).2) hA'' res.rets vs 0 cs p8 hcs (fun i hi => by simp [hv'])
    split at h
    ·rename_i c houts hcs
     obtain ⟨q1, q2, q3⟩ := hcomp _ hcs
     refine hn _ _ w' G hv' (qj h) hbel hG p7 ?_
     have h0 := q3 0 (by simp)
     simp only [List.getD_cons_zero] at h0
     match vs, q1, h0 with
     | [v], _, h0 =>
      simp only [retV, List.getD_cons_zero] at h0 ⊢
      obtain ⟨ag, l⟩ := c
      cases ag with
      | true => exact h0
      | false =>
       match l, h0 with
       | [], _ => trivial
       | [y], h0 => exact h0
       | _ :: _ :: _, _ => trivial
    ·rename_i cs hne houts hcs
     obtain ⟨q1, q2, q3⟩ := hcomp _ hcs
     refine hn _ _ w' G hv' (qj h) hbel hG p7 ?_
     have hvs : retV vs = .tuple vs.toArray := by
      match vs, q1 with
      | [], _ => rfl
      | [v], q1 =>
       exfalso
       match cs, q1 with
       | [c], _ => exact hne c rfl
      | _ :: _ :: _, _ => rfl
     rw [hvs]
     refine ⟨vs.toArray, rfl, by simp [q1], fun i hi => ?_⟩
     have := q3 i hi
     simpa [Array.getD_eq_getD_getElem?, List.getD_eq_getElem?_getD] using this
    ·exact (qg h).elim
  ·exact (qg h).elim
 ·exact (qg h).elim
end
end Go.Proofs.YthocpcfjfgnkgaaGreatRv
namespace Go.Proofs.YthocpcfjfgnkgaaGreatRv
open Go Go.RowKit
set_option linter.unusedVariables false
set_option linter.unusedSimpArgs false
section
variable {P : Program} {M : Mdl} {w : World} {S : St} {a : Act} {E : Env} {C : CallSem} {R : Type}
def QuietR (P : Program) (E : Env) (M : Mdl) (S : St) (a : Act) (w : World) (o : Oper) (K : TV -> Option R) (r : R) : Prop :=
 ∀ (next : Act -> World -> Prop) (Q : Exit -> Act -> World -> Prop),
  (∀ M' tv v w', K tv = some r -> M'.ok = M.ok -> Rel P E M' S a w' -> TVr P M' w' tv v -> next (a.put o.dst v) w') -> o.wp P a w next Q
theorem qm {o : Oper} {K : TV -> Option R} {r : R} (hR : Rel P E M S a w) (h : Still P M w a o K r) : QuietR P E M S a w o K r := by
 intro next Q hn
 obtain ⟨tv, v, h1, h2, h3⟩ := h
 unfold Oper.wp
 rw [h2]
 exact hn M tv v w h1 rfl hR h3
theorem qcH {o : Oper} {d : Nat} {K : TV -> Option R} {r : R} (hR : Rel P E M S a w) (hS : S.has (ofSite d) = false) (h : Made P M w a d o K r) : QuietR P E M S a w o K r := by
 intro next Q hn
 obtain ⟨tv, v, w', B, hv, h1, h2, h3, h4, h5, h6⟩ := h
 unfold Oper.wp
 rw [h2]
 exact hn (M.site d B hv) tv v w' h1 rfl (hR.site h3 h4 h5 hS) h6
theorem qbP (hC : SoundC P C) {o : Oper} (hR : Rel P E M S a w) (hm : makes o = true -> S.has (ofSite (o.dst.getD 0)) = false) {K : TV -> Option R} {r : R} (h : (quiet P S o).go C K = some r) : QuietR P E M S a w o K r := by
 cases ho : o.op with
 | move x => exact qm hR (qey (.inl ho) hR h)
 | assign x => exact qm hR (qey (.inr ho) hR h)
 | pick c x y => exact qm hR (qhy ho hR h)
 | binOp op xt x y yt => exact qm hR (qiK ho hR h)
 | unOp op t x => exact qm hR (qja ho hR h)
 | convert s t x => exact qm hR (qfE ho hR h)
 | extract x i => exact qm hR (qfC ho hR h)
 | field t x f => exact qm hR (qgK ho hR h)
 | fieldAddr s x f => exact qm hR (qeD ho hR h)
 | nilCheck x => exact qm hR (qeN ho hR h)
 | indexAddr t x i => exact qm hR (qez ho hR h)
 | index t x i => exact qm hR (qgC ho hR h)
 | load t x => exact qm hR (qhL ho hR h)
 | slice t x lo hi mx =>
  cases mx with
  | none => exact qm hR (qgH ho hR h)
  | some m =>
   unfold quiet at h
   simp only [ho] at h
   exact (qg h).elim
 | build t parts => exact qm hR (qgy ho hR h)
 | makeFunc f first caps =>
  cases f with
  | func f => exact qm hR (qeL ho hR h)
  | _ =>
   unfold quiet at h
   simp only [ho] at h
   exact (qg h).elim
 | buildSlice t n parts =>
  have hS := hm (by simp [makes, ho])
  cases hd : o.dst with
  | none =>
   unfold quiet at h
   simp only [ho, hd] at h
   split at h <;> first | exact (qg h).elim | simp at *
  | some d =>
   rw [hd] at hS
   exact qcH hR hS (qeu ho hd hR hS h)
 | makeSlice t x y =>
  have hS := hm (by simp [makes, ho])
  cases hd : o.dst with
  | none =>
   unfold quiet at h
   simp only [ho, hd] at h
   split at h <;> first | exact (qg h).elim | simp at *
  | some d =>
   rw [hd] at hS
   exact qcH hR hS (qeJ ho hd hR hS h)
 | call c =>
  obtain ⟨callee, args, ts⟩ := c
  cases callee with
  | builtin b =>
   cases b with
   | len => exact qm hR (qir ho hR h)
   | min => exact qm hR (qiL ho hR h)
   | max => exact qm hR (qil ho hR h)
   | _ =>
    unfold quiet at h
    simp only [ho] at h
    exact (qg h).elim
  | value f =>
   have hS := hm (by simp [makes, ho])
   intro next Q hn
   exact qiF hC ho rfl hR hS h fun tv v w' B hv h1 h2 h3 h4 h5 => hn (M.site _ B hv) tv v w' h1 rfl (hR.site h2 h3 h4 hS) h5
  | _ =>
   unfold quiet at h
   simp only [ho] at h
   exact (qg h).elim
 | _ =>
  unfold quiet at h
  simp only [ho] at h
  exact (qg h).elim
end
end Go.Proofs.YthocpcfjfgnkgaaGreatRv
