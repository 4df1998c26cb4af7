/- What the printed forms answer, over numbers and lists alone. Each lemma names its conditions. -/
import Derived.Test.YthocpcfjfgnkgaaDoorGFnTextsb
import Derived.Lib.ItoaNum
import Derived.Lib.Join
import Derived.Lib.SplitLaws
import Derived.Lib.Strings
import Derived.Lib.AtoiAll
namespace Go.Proofs.YthocpcfjfgnkgaaDoorG
open Go Go.Proofs.YthocpcfjfgnkgaaDoorRv Go.RowKit
set_option linter.unusedVariables false
set_option linter.unusedSimpArgs false


theorem impl_within.ev (a b c : Int) : Ev (fun k => impl_within.f k a b c) (decide (b ≤ a ∧ a ≤ c)) := by
  refine ev_step ?_
  simp only [impl_within.f, impl_within.b]
  exact ev_ite (fun h => ev_some (by simp [h])) (fun h => ev_some (by simp [h]))
theorem impl_isNum.ev (a : Int) : Ev (fun k => impl_isNum.f k a) (isNum a) := by
  refine ev_step ?_
  simp only [impl_isNum.f, impl_isNum.b]
  exact Ev.bind (impl_within.ev _ _ _) (ev_some rfl)


structure Row where
  f0 : Int
  z : Bool
  f1 : List Int
instance : Inhabited Row := ⟨⟨0, false, []⟩⟩
def Row.t (r : Row) : T := .agg [.int .i64 r.f0, .nums 5 .u8 r.z r.f1]
theorem row_at {l : List Row} {i : Nat} (h : i < l.length) : (l.map Row.t).getD i .bad = (l[i]).t := by simp [List.getD_eq_getElem?_getD, h]
theorem Row.c0 (r : Row) : (r.t.cells.getD 0 .bad).toInt = r.f0 := rfl
theorem Row.c1z (r : Row) : (r.t.cells.getD 1 .bad).isNil = r.z := rfl
theorem Row.c1 (r : Row) : (r.t.cells.getD 1 .bad).toNums = r.f1 := rfl

def rowOk (r : Row) : Bool := decide (1 ≤ r.f0 ∧ r.f0 ≤ 1099511627776) && decide (1 ≤ r.f1.length ∧ r.f1.length ≤ 64)
def tabOk (l : List Row) : Bool := l.all rowOk && decide (1 ≤ l.length ∧ l.length ≤ 10)
theorem tabOk_iff {l : List Row} : tabOk l = true ↔ (∀ r ∈ l, (1 ≤ r.f0 ∧ r.f0 ≤ 1099511627776) ∧ 1 ≤ r.f1.length ∧ r.f1.length ≤ 64) ∧ 1 ≤ l.length ∧ l.length ≤ 10 := by
  simp [tabOk, rowOk]
theorem impl_TableOk.ev0 (z : Bool) (l : List Row) (h : l.length ≤ 1048576) : ∀ (d n : Nat), n + d = l.length → Ev (fun k => impl_TableOk.l0 k z (l.map Row.t) (l.length : Int) (n : Int) z (l.map Row.t)) ((l.drop n).all rowOk && decide (1 ≤ l.length ∧ l.length ≤ 10))
  | 0, n, hn => by
    refine ev_step ?_
    simp only [impl_TableOk.l0, impl_TableOk.l0b]
    refine ev_neg (by omega) (Ev.bind (impl_within.ev _ _ _) (ev_some ?_))
    rw [List.drop_of_length_le (by omega), List.length_map]
    have e : (1 ≤ (l.length : Int) ∧ (l.length : Int) ≤ 10) ↔ (1 ≤ l.length ∧ l.length ≤ 10) := by omega
    simp [e]
  | d + 1, n, hn => by
    have hlt : n < l.length := by omega
    refine ev_step ?_
    simp only [impl_TableOk.l0, impl_TableOk.l0b, Int.toNat_natCast, row_at hlt, Row.c0, Row.c1, List.length_map]
    refine ev_pos (by omega) (ev_pos (by omega) (ev_pos (by omega) (Ev.bind (impl_within.ev _ _ _) ?_)))
    rw [List.drop_eq_getElem_cons hlt, List.all_cons]
    refine ev_ite (fun c1 => ev_some ?_) (fun c1 => Ev.bind (impl_within.ev _ _ _) (ev_ite (fun c2 => ev_some ?_) (fun c2 => ?_)))
    · simp at c1
      have : ¬ (1 ≤ (l[n]).f0 ∧ (l[n]).f0 ≤ 1099511627776) := by omega
      simp [rowOk, this]
    · simp at c2
      have : ¬ (1 ≤ (l[n]).f1.length ∧ (l[n]).f1.length ≤ 64) := by omega
      simp [rowOk, this]
    · rw [w64s (by omega)]
      have ih := impl_TableOk.ev0 z l h d (n + 1) (by omega)
      refine ev_to ih ?_
      simp at c1 c2
      have c3 : 1 ≤ (l[n]).f1.length ∧ (l[n]).f1.length ≤ 64 := by omega
      simp [rowOk, c1, c3]
theorem impl_TableOk.ev (z : Bool) (l : List Row) (h : l.length ≤ 1048576) : Ev (fun k => impl_TableOk.f k z (l.map Row.t)) (tabOk l) := by
  refine ev_step ?_
  simp only [impl_TableOk.f, impl_TableOk.b, List.length_map]
  exact ev_to (impl_TableOk.ev0 z l h l.length 0 (by omega)) (by simp [tabOk])
theorem impl_SameBytes.ev (y z : Bool) (a b : List Int) : Ev (fun k => impl_SameBytes.f k y a z b) (sameB a b) := by
  refine ev_step ?_
  simp only [impl_SameBytes.f, impl_SameBytes.b]
  exact ev_some rfl
end Go.Proofs.YthocpcfjfgnkgaaDoorG
namespace Go.Proofs.YthocpcfjfgnkgaaDoorG
open Go Go.Proofs.YthocpcfjfgnkgaaDoorRv Go.RowKit
set_option linter.unusedVariables false
set_option linter.unusedSimpArgs false


def isW (x : Int) : Prop := 0 ≤ x ∧ x ≤ 4294967295
theorem rdI_nat {l : List Int} {n : Nat} (h : n < l.length) : rdI l (n : Int) = l[n] := by simp [rdI, h]
def Ws (l : List Int) : Prop := ∀ x ∈ l, isW x
def bytesOk (b : List Int) : Prop := ∀ x ∈ b, 0 ≤ x ∧ x < 256

end Go.Proofs.YthocpcfjfgnkgaaDoorG
namespace Go.Proofs.YthocpcfjfgnkgaaDoorG
open Go Go.Proofs.YthocpcfjfgnkgaaDoorRv Go.RowKit
set_option linter.unusedVariables false
set_option linter.unusedSimpArgs false

section
variable (y0 y1 y2 : Bool) (h b : List Int)



end
end Go.Proofs.YthocpcfjfgnkgaaDoorG
namespace Go.Proofs.YthocpcfjfgnkgaaDoorG
open Go Go.Proofs.YthocpcfjfgnkgaaDoorRv Go.RowKit
set_option linter.unusedVariables false
set_option linter.unusedSimpArgs false


section
variable (z : Bool) (l : List Int)
end


theorem succ_nat (i : Nat) (h : i ≤ 1000000000) : wrap64 ((i : Int) + 1) = ((i + 1 : Nat) : Int) := by unfold wrap64; omega

end Go.Proofs.YthocpcfjfgnkgaaDoorG
namespace Go.Proofs.YthocpcfjfgnkgaaDoorG
open Go Go.Proofs.YthocpcfjfgnkgaaDoorRv Go.RowKit
set_option linter.unusedVariables false
set_option linter.unusedSimpArgs false


def Row.ok (r : Row) : Prop := r.f1.length ≤ 1048576 ∧ bytesOk r.f1
def Rows (l : List Row) : Prop := l.length ≤ 1048576 ∧ ∀ r ∈ l, r.ok
def Row.cp (r : Row) : Row := ⟨r.f0, false, r.f1⟩


end Go.Proofs.YthocpcfjfgnkgaaDoorG
namespace Go.Proofs.YthocpcfjfgnkgaaDoorG
open Go Go.Proofs.YthocpcfjfgnkgaaDoorRv Go.RowKit
set_option linter.unusedVariables false
set_option linter.unusedSimpArgs false

end Go.Proofs.YthocpcfjfgnkgaaDoorG
namespace Go.Proofs.YthocpcfjfgnkgaaDoorG
open Go Go.Proofs.YthocpcfjfgnkgaaDoorRv Go.RowKit
set_option linter.unusedVariables false
set_option linter.unusedSimpArgs false

structure By where
  z : Bool
  l : List Int
instance : Inhabited By := ⟨⟨false, []⟩⟩
def By.t (b : By) : T := .nums 5 .u8 b.z b.l
def By.cp (b : By) : By := ⟨false, b.l⟩
theorem By.c0 (b : By) : (b.t.cells.getD 0 .bad).toNums = b.l := rfl
theorem len_eq {m n : Nat} : ((m : Int) = (n : Int)) ↔ m = n := by omega
theorem getD_in {α : Type} [Inhabited α] {l : List α} {n : Nat} (h : n < l.length) : l.getD n default = l[n] := by simp [h]
def rowSame (x y : Row) : Bool := decide (x.f0 = y.f0) && sameB x.f1 y.f1
def tableSame (a b : List Row) : Bool := decide (a.length = b.length) && allFrom (fun n => rowSame (a.getD n default) (b.getD n default)) 0 a.length
theorem impl_TableSame.ev (y z : Bool) (a b : List Row) (ha : a.length ≤ 1048576) : Ev (fun k => impl_TableSame.f k y (a.map Row.t) z (b.map Row.t)) (tableSame a b) := by
  refine ev_step ?_
  simp only [impl_TableSame.f, impl_TableSame.b, List.length_map]
  unfold tableSame
  refine ev_ite (fun c => ev_some ?_) (fun c => ?_)
  · have : ¬ a.length = b.length := fun e => c (len_eq.2 e)
    simp [this]
  · have hab : a.length = b.length := len_eq.1 (by simpa using c)
    simp only [hab, decide_true, Bool.true_and]
    rw [← hab]
    refine ev_allp (fun k i => impl_TableSame.l0 k (a.length : Int) i y (a.map Row.t) z (b.map Row.t)) a.length _ (fun n hn hp r hr => ?_) (fun n hn hp => ?_) ?_ a.length 0 (by omega)
    · have hb : n < b.length := by omega
      rw [getD_in hn, getD_in hb] at hp
      simp only [rowSame, Bool.and_eq_true, decide_eq_true_eq] at hp
      refine ev_step ?_
      simp only [impl_TableSame.l0, impl_TableSame.l0b, List.length_map, Int.toNat_natCast, row_at hn, row_at hb, Row.c0, Row.c1, Row.c1z, succ_nat n (by omega)]
      exact ev_pos (by omega) (ev_pos (by omega) (ev_pos (by omega) (ev_pos (by omega) (ev_pos (by omega) (ev_neg (by simp [hp.1]) (ev_pos (by omega) (ev_pos (by omega) (ev_pos (by omega) (ev_pos (by omega) (Ev.bind (impl_SameBytes.ev _ _ _ _) (ev_neg (by simp [hp.2]) hr)))))))))))
    · have hb : n < b.length := by omega
      rw [getD_in hn, getD_in hb] at hp
      refine ev_step ?_
      simp only [impl_TableSame.l0, impl_TableSame.l0b, List.length_map, Int.toNat_natCast, row_at hn, row_at hb, Row.c0, Row.c1, Row.c1z, succ_nat n (by omega)]
      refine ev_pos (by omega) (ev_pos (by omega) (ev_pos (by omega) (ev_pos (by omega) (ev_pos (by omega) (ev_ite (fun _ => ev_some rfl) fun c0 => ev_pos (by omega) (ev_pos (by omega) (ev_pos (by omega) (ev_pos (by omega) (Ev.bind (impl_SameBytes.ev _ _ _ _) (ev_pos ?_ (ev_some rfl))))))))))) 
      have c1 : (a[n]).f0 = (b[n]).f0 := by simpa using c0
      simpa [rowSame, c1] using hp
    · refine ev_step ?_
      simp only [impl_TableSame.l0, impl_TableSame.l0b, List.length_map]
      exact ev_neg (by omega) (ev_some rfl)

structure QcV where
  v : Int
  h : Int
  bz : Bool
  blk : List Int
  mz : Bool
  bits : List Int
  tz : Bool
  tags : List By
structure Head where
  v : Int
  h : Int
  p : Int
  az : Bool
  par : List Int
  rz : Bool
  root : List Int
  q : QcV
instance : Inhabited Head := ⟨⟨0, 0, 0, false, [], false, [], ⟨0, 0, false, [], false, [], false, []⟩⟩⟩
def Head.t (x : Head) : T := .agg [.int .i64 x.v, .int .i64 x.h, .int .i64 x.p, .nums 5 .u8 x.az x.par, .nums 5 .u8 x.rz x.root, .int .i64 x.q.v, .int .i64 x.q.h, .nums 5 .u8 x.q.bz x.q.blk, .nums 5 .u8 x.q.mz x.q.bits, .sl 22 x.q.tz (x.q.tags.map By.t)]
section
variable (x : Head)
theorem Head.c0 : (x.t.cells.getD 0 .bad).toInt = x.v := rfl
theorem Head.c1 : (x.t.cells.getD 1 .bad).toInt = x.h := rfl
theorem Head.c2 : (x.t.cells.getD 2 .bad).toInt = x.p := rfl
theorem Head.c3 : (x.t.cells.getD 3 .bad).toNums = x.par := rfl
theorem Head.c4 : (x.t.cells.getD 4 .bad).toNums = x.root := rfl
end
def QcV.cp (q : QcV) : QcV := ⟨q.v, q.h, false, q.blk, false, q.bits, false, q.tags.map By.cp⟩
def Head.cp (x : Head) : Head := ⟨x.v, x.h, x.p, false, x.par, false, x.root, x.q.cp⟩
end Go.Proofs.YthocpcfjfgnkgaaDoorG
namespace Go.Proofs.YthocpcfjfgnkgaaDoorG
open Go Go.Proofs.YthocpcfjfgnkgaaDoorRv Go.RowKit
set_option linter.unusedVariables false
set_option linter.unusedSimpArgs false

structure Light where
  l0 : Int
  l1 : Int
  l2 : Int
  l3 : Int
  l4 : Int
  rz : Bool
  rows : List Row
  skip : Int
  bz : Bool
  buf : List Int
  cz : Bool
  chain : List Head
def Light.cp (x : Light) : Light := ⟨x.l0, x.l1, x.l2, x.l3, x.l4, false, x.rows.map Row.cp, x.skip, false, x.buf, false, x.chain.map Head.cp⟩
end Go.Proofs.YthocpcfjfgnkgaaDoorG
namespace Go.Proofs.YthocpcfjfgnkgaaDoorG
open Go Go.Proofs.YthocpcfjfgnkgaaDoorRv Go.RowKit
set_option linter.unusedVariables false
set_option linter.unusedSimpArgs false


end Go.Proofs.YthocpcfjfgnkgaaDoorG
namespace Go.Proofs.YthocpcfjfgnkgaaDoorG
open Go Go.Proofs.YthocpcfjfgnkgaaDoorRv Go.RowKit
set_option linter.unusedVariables false
set_option linter.unusedSimpArgs false

structure Sl (α : Type) where
  z : Bool
  l : List α
def goodI (n : Int) : Prop := (Lit.int .i64 n).wf = true
def By.good (b : By) : Prop := b.l.length ≤ 9223372036854775807 ∧ ∀ n ∈ b.l, (Lit.int .u8 n).wf = true
def GoodL {α : Type} (g : α → Prop) (l : List α) : Prop := l.length ≤ 9223372036854775807 ∧ ∀ x ∈ l, g x
def Row.good (r : Row) : Prop := goodI r.f0 ∧ By.good ⟨r.z, r.f1⟩
def Tab.good (x : Sl Row) : Prop := GoodL Row.good x.l
def QcV.good (q : QcV) : Prop := goodI q.v ∧ goodI q.h ∧ By.good ⟨q.bz, q.blk⟩ ∧ By.good ⟨q.mz, q.bits⟩ ∧ GoodL By.good q.tags
def Head.good (h : Head) : Prop := goodI h.v ∧ goodI h.h ∧ goodI h.p ∧ By.good ⟨h.az, h.par⟩ ∧ By.good ⟨h.rz, h.root⟩ ∧ h.q.good
structure Vt where
  v : Int
  h : Int
  bz : Bool
  blk : List Int
  who : Int
  tz : Bool
  tag : List Int
instance : Inhabited Vt := ⟨⟨0, 0, false, [], 0, false, []⟩⟩
def Vt.t (x : Vt) : T := .agg [.int .i64 x.v, .int .i64 x.h, .nums 5 .u8 x.bz x.blk, .int .i64 x.who, .nums 5 .u8 x.tz x.tag]
theorem Vt.c0 (x : Vt) : (x.t.cells.getD 0 .bad).toInt = x.v := rfl
theorem Vt.c1 (x : Vt) : (x.t.cells.getD 1 .bad).toInt = x.h := rfl
theorem Vt.c2 (x : Vt) : (x.t.cells.getD 2 .bad).toNums = x.blk := rfl
theorem Vt.c3 (x : Vt) : (x.t.cells.getD 3 .bad).toInt = x.who := rfl
theorem Vt.c4 (x : Vt) : (x.t.cells.getD 4 .bad).toNums = x.tag := rfl
def Vt.good (x : Vt) : Prop := goodI x.v ∧ goodI x.h ∧ By.good ⟨x.bz, x.blk⟩ ∧ goodI x.who ∧ By.good ⟨x.tz, x.tag⟩
def Vt.cp (x : Vt) : Vt := ⟨x.v, x.h, false, x.blk, x.who, false, x.tag⟩
structure En where
  who : Int
  high : Int
  tz : Bool
  tag : List Int
instance : Inhabited En := ⟨⟨0, 0, false, []⟩⟩
def En.t (x : En) : T := .agg [.int .i64 x.who, .int .i64 x.high, .nums 5 .u8 x.tz x.tag]
theorem En.c0 (x : En) : (x.t.cells.getD 0 .bad).toInt = x.who := rfl
theorem En.c1 (x : En) : (x.t.cells.getD 1 .bad).toInt = x.high := rfl
theorem En.c2 (x : En) : (x.t.cells.getD 2 .bad).toNums = x.tag := rfl
def En.good (x : En) : Prop := goodI x.who ∧ goodI x.high ∧ By.good ⟨x.tz, x.tag⟩
def En.cp (x : En) : En := ⟨x.who, x.high, false, x.tag⟩

structure Lm where
  l0 : Int
  l1 : Int
  l2 : Int
  l3 : Int
  l4 : Int
def Lm.good (x : Lm) : Prop := goodI x.l0 ∧ goodI x.l1 ∧ goodI x.l2 ∧ goodI x.l3 ∧ goodI x.l4
structure TcV where
  v : Int
  ez : Bool
  ents : List En
def TcV.good (x : TcV) : Prop := goodI x.v ∧ GoodL En.good x.ents
structure Ps where
  skip : Int
  z : Bool
  buf : List Int
def Ps.good (x : Ps) : Prop := goodI x.skip ∧ By.good ⟨x.z, x.buf⟩
def Light.good (x : Light) : Prop := Lm.good ⟨x.l0, x.l1, x.l2, x.l3, x.l4⟩ ∧ GoodL Row.good x.rows ∧ Ps.good ⟨x.skip, x.bz, x.buf⟩ ∧ GoodL Head.good x.chain
structure Fo where
  l0 : Int
  l1 : Int
  l2 : Int
  l3 : Int
  l4 : Int
  hz : Bool
  heads : List Head
def Fo.good (x : Fo) : Prop := Lm.good ⟨x.l0, x.l1, x.l2, x.l3, x.l4⟩ ∧ GoodL Head.good x.heads
structure Pf where
  hz : Bool
  heads : List Head
  q : QcV
def Pf.good (x : Pf) : Prop := GoodL Head.good x.heads ∧ x.q.good
end Go.Proofs.YthocpcfjfgnkgaaDoorG
namespace Go.Proofs.YthocpcfjfgnkgaaDoorG
open Go Go.Proofs.YthocpcfjfgnkgaaDoorRv Go.RowKit
set_option linter.unusedVariables false
set_option linter.unusedSimpArgs false

theorem and255 (x : Int) : 0 ≤ Go.bits .and .i64 x 255 ∧ Go.bits .and .i64 x 255 ≤ 255 := by
  have h : (BitVec.ofInt 64 x &&& BitVec.ofInt 64 255).toNat ≤ 255 := by
    rw [BitVec.toNat_and]
    exact Nat.le_trans Nat.and_le_right (by decide)
  have e : Go.bits .and .i64 x 255 = ((BitVec.ofInt 64 x &&& BitVec.ofInt 64 255).toNat : Int) := by
    show IntKind.i64.wrap ((BitVec.ofInt 64 x &&& BitVec.ofInt 64 255).toNat : Int) = _
    rw [IntKind.wrap_i64]
    omega
  rw [e]
  omega
end Go.Proofs.YthocpcfjfgnkgaaDoorG
namespace Go.Proofs.YthocpcfjfgnkgaaDoorG
open Go Go.Proofs.YthocpcfjfgnkgaaDoorRv Go.RowKit
set_option linter.unusedVariables false
set_option linter.unusedSimpArgs false

theorem impl_LimitsOk.ev (a b c d e : Int) : Ev (fun k => impl_LimitsOk.f k a b c d e) (limitsOk a b c d e) := by
  refine ev_step ?_
  simp only [impl_LimitsOk.f, impl_LimitsOk.b]
  refine Ev.bind (impl_within.ev _ _ _) (ev_ite (fun c1 => Ev.bind (impl_within.ev _ _ _) (ev_ite (fun c2 => Ev.bind (impl_within.ev _ _ _) (ev_ite (fun c3 => Ev.bind (impl_within.ev _ _ _) (ev_ite (fun c4 => Ev.bind (impl_within.ev _ _ _) (ev_some ?_)) fun c4 => ev_some ?_)) fun c3 => ev_some ?_)) fun c2 => ev_some ?_)) fun c1 => ev_some ?_)
  all_goals (simp_all [limitsOk]; try omega)
end Go.Proofs.YthocpcfjfgnkgaaDoorG
namespace Go.Proofs.YthocpcfjfgnkgaaDoorG
open Go Go.Proofs.YthocpcfjfgnkgaaDoorRv Go.RowKit
set_option linter.unusedVariables false
set_option linter.unusedSimpArgs false


def str (l : List UInt8) : ByteArray := ⟨l.toArray⟩
theorem str_sz (l : List UInt8) : (str l).size = l.length := by simp [str, ByteArray.size]
theorem lit_sz (l : List UInt8) : (ByteArray.mk (List.toArray l)).size = l.length := by simp [ByteArray.size]
theorem strOf_sz (l : List Int) : (strOf l).size = l.length := by simp [strOf, ByteArray.size]
theorem digits_le : ∀ (d u : Nat), u < 10 ^ (d + 1) → (Lib.decDigits u).length ≤ d + 1
  | 0, u, h => by rw [Lib.decDigits, dif_pos (by simpa using h)]; simp
  | d + 1, u, h => by
    by_cases c : u < 10
    · rw [Lib.decDigits, dif_pos c]; simp
    · rw [Lib.decDigits, dif_neg c]
      have e : 10 ^ (d + 1 + 1) = 10 ^ (d + 1) * 10 := Nat.pow_succ 10 (d + 1)
      have := digits_le d (u / 10) (by omega)
      simp only [List.length_append, List.length_cons, List.length_nil]
      omega
theorem digits_pos (u : Nat) : Lib.decDigits u ≠ [] := by
  rw [Lib.decDigits]
  split <;> simp

def numT (n : Int) : ByteArray := if isNum n = true then itoaB n else ⟨#[]⟩
theorem itoa_pos {n : Int} (h : 0 ≤ n) : itoaB n = str (Lib.decDigits n.toNat) := by
  unfold itoaB Lib.itoa str
  rw [if_neg (by omega)]
theorem numT_sz (n : Int) : (numT n).size ≤ 20 := by
  unfold numT
  split
  · rename_i h
    have h := isNum_iff.1 h
    rw [itoa_pos h.1, str_sz]
    exact Nat.le_trans (digits_le 18 n.toNat (by omega)) (by decide)
  · simp [ByteArray.size]
theorem strconv_Itoa.ev {n : Int} (h : isNum n = true) : Ev (fun k => strconv_Itoa.f k n) (itoaB n) := by
  have h := isNum_iff.1 h
  simp only [strconv_Itoa.f]
  exact ev_pos (by unfold inI; exact decide_eq_true ⟨by omega, by omega⟩) (ev_some rfl)
theorem impl_NumText.ev (n : Int) : Ev (fun k => impl_NumText.f k n) (numT n) := by
  refine ev_step ?_
  simp only [impl_NumText.f, impl_NumText.b]
  unfold numT
  refine Ev.bind (impl_isNum.ev n) (ev_ite (fun q => ev_some ?_) (fun q => ?_))
  · rw [if_neg q]
  · have q : isNum n = true := by simpa using q
    rw [if_pos q]
    exact Ev.bind (strconv_Itoa.ev q) (ev_some rfl)
theorem hex_bt : ∀ n : Fin 16, btI (⟨#[48, 49, 50, 51, 52, 53, 54, 55, 56, 57, 97, 98, 99, 100, 101, 102]⟩ : ByteArray) ((n.val : Nat) : Int) = hexd ((n.val : Nat) : Int) := by decide
theorem hex_at {n : Int} (h0 : 0 ≤ n) (h1 : n < 16) : btI (⟨#[48, 49, 50, 51, 52, 53, 54, 55, 56, 57, 97, 98, 99, 100, 101, 102]⟩ : ByteArray) n = hexd n := by
  have := hex_bt ⟨n.toNat, by omega⟩
  rwa [show ((n.toNat : Nat) : Int) = n by omega] at this
theorem u8_15 : ∀ n : Fin 256, Go.bits .and .u8 ((n.val : Nat) : Int) 15 = ((n.val % 16 : Nat) : Int) := by decide +kernel
theorem u8_and15 {x : Int} (h0 : 0 ≤ x) (h1 : x < 256) : Go.bits .and .u8 x 15 = x % 16 := by
  have := u8_15 ⟨x.toNat, by omega⟩
  simp only at this
  rw [show ((x.toNat : Nat) : Int) = x by omega] at this
  rw [this]
  omega
theorem shr4 (x : Int) : shrI .u8 x 4 = x / 16 := by
  unfold shrI
  rfl
theorem rd_nib {l : List Int} (h : niceB l) {n : Nat} (hn : n < l.length) : 0 ≤ rdI l (n : Int) ∧ rdI l (n : Int) < 256 := by
  rw [rd_nat hn]
  exact h.2 _ (List.getElem_mem hn)
def hexT (l : List Int) : ByteArray := strOf (hex l)
theorem hexT_sz (l : List Int) : (hexT l).size = 2 * l.length := by rw [hexT, strOf_sz, hex_length]
theorem impl_HexText.ev0 (z : Bool) (l : List Int) (h : niceB l) : ∀ (d n : Nat) (acc : List Int), n + d = l.length → acc.length ≤ 2 * n → Ev (fun k => impl_HexText.l0 k acc z l (l.length : Int) (n : Int)) (strOf (acc ++ hex (l.drop n))) := by
  have hl := h.1
  intro d
  induction d with
  | zero =>
    intro n acc hn ha
    refine ev_step ?_
    simp only [impl_HexText.l0, impl_HexText.l0b]
    refine ev_neg (by omega) (ev_some ?_)
    rw [List.drop_of_length_le (by omega)]
    simp [hex]
  | succ d ih =>
    intro n acc hn ha
    have hlt : n < l.length := by omega
    have b := rd_nib h hlt
    have i2 := ih (n + 1) (acc ++ [hexd (rdI l (n : Int) / 16), hexd (rdI l (n : Int) % 16)]) (by omega) (by simp; omega)
    refine ev_step ?_
    simp only [impl_HexText.l0, impl_HexText.l0b]
    rw [u8_and15 b.1 b.2, shr4, hex_at (n := rdI l (n : Int) / 16) (by omega) (by omega), hex_at (n := rdI l (n : Int) % 16) (by omega) (by omega), w64s (by omega), lit_sz]
    simp only [List.length_cons, List.length_nil]
    refine ev_pos (by omega) (ev_pos (by omega) (ev_pos (by omega) (ev_pos (by omega) (ev_pos (by omega) (ev_pos (by omega) (ev_pos (by omega) (ev_pos (by omega) (ev_to i2 ?_))))))))
    rw [drop_rd hlt, hex]
    simp
theorem impl_HexText.ev (z : Bool) (l : List Int) (h : niceB l) : Ev (fun k => impl_HexText.f k z l) (hexT l) := by
  refine ev_step ?_
  simp only [impl_HexText.f, impl_HexText.b]
  exact ev_to (impl_HexText.ev0 z l h l.length 0 [] (by omega) (by simp)) (by simp [hexT])
end Go.Proofs.YthocpcfjfgnkgaaDoorG
namespace Go.Proofs.YthocpcfjfgnkgaaDoorG
open Go Go.Proofs.YthocpcfjfgnkgaaDoorRv Go.RowKit
set_option linter.unusedVariables false
set_option linter.unusedSimpArgs false
structure Blk where
  hd : Head
  tz : Bool
  txs : List By
def Blk.good (x : Blk) : Prop := Head.good x.hd ∧ GoodL By.good x.txs
def Blk.cp (x : Blk) : Blk := ⟨x.hd.cp, false, x.txs.map By.cp⟩
structure Sd where
  k : Int
  n : Int
def Sd.good (x : Sd) : Prop := goodI x.k ∧ goodI x.n
structure Inc where
  h : Int
  n : Int
  at_ : Int
  xz : Bool
  tx : List Int
  pz : Bool
  path : List By
def Inc.good (x : Inc) : Prop := goodI x.h ∧ goodI x.n ∧ goodI x.at_ ∧ By.good ⟨x.xz, x.tx⟩ ∧ GoodL By.good x.path
def Inc.cp (x : Inc) : Inc := ⟨x.h, x.n, x.at_, false, x.tx, false, x.path.map By.cp⟩
end Go.Proofs.YthocpcfjfgnkgaaDoorG
namespace Go.Proofs.YthocpcfjfgnkgaaDoorG
open Go Go.Proofs.YthocpcfjfgnkgaaDoorRv Go.RowKit
set_option linter.unusedVariables false
set_option linter.unusedSimpArgs false

theorem comma_sz : (⟨#[44]⟩ : ByteArray).size = 1 := rfl
def tailA (by_ : ByteArray) : List ByteArray → ByteArray
  | [] => ⟨#[]⟩
  | x :: r => by_ ++ x ++ tailA by_ r
def joinA (by_ : ByteArray) : List ByteArray → ByteArray
  | [] => ⟨#[]⟩
  | x :: r => x ++ tailA by_ r
theorem tailA_sz {by_ : ByteArray} {P : Nat} : ∀ {l : List ByteArray}, (∀ x ∈ l, x.size ≤ P) → (tailA by_ l).size ≤ l.length * (by_.size + P)
  | [], _ => by rw [tailA, lit_sz]; simp
  | x :: r, h => by
    have h1 := h x (by simp)
    have h2 := tailA_sz (by_ := by_) (l := r) fun y hy => h y (by simp [hy])
    unfold tailA
    simp only [ByteArray.size_append, List.length_cons, Nat.add_mul, Nat.one_mul]
    omega
theorem joinA_sz {by_ : ByteArray} {P : Nat} {l : List ByteArray} (h : ∀ x ∈ l, x.size ≤ P) : (joinA by_ l).size ≤ l.length * (by_.size + P) := by
  cases l with
  | nil => rw [joinA, lit_sz]; simp
  | cons x r =>
    have h1 := h x (by simp)
    have h2 := tailA_sz (by_ := by_) (l := r) fun y hy => h y (by simp [hy])
    unfold joinA
    simp only [ByteArray.size_append, List.length_cons, Nat.add_mul, Nat.one_mul]
    omega
theorem arr_ext {a b : ByteArray} (h : a.data.toList = b.data.toList) : a = b := by
  cases a
  cases b
  simpa using h
theorem data_app (a b : ByteArray) : (a ++ b).data.toList = a.data.toList ++ b.data.toList := by
  cases a
  cases b
  rw [ByteArray.mk_append_mk]
  first | done | simp
theorem tailA_data (by_ : ByteArray) : ∀ l : List ByteArray, (tailA by_ l).data.toList = Lib.joinTail by_.data.toList (l.map (·.data.toList))
  | [] => by simp [tailA, Lib.joinTail]
  | x :: r => by
    have ih := tailA_data by_ r
    unfold tailA
    rw [data_app, data_app, ih]
    simp [Lib.joinTail]
theorem strs_map (l : List ByteArray) : strsOf (l.map T.str) = l := by simp [strsOf, T.toStr, Function.comp_def]
theorem joinB_eq (by_ : ByteArray) (l : List ByteArray) : joinB (l.map T.str) by_ = joinA by_ l := by
  unfold joinB
  rw [strs_map]
  refine arr_ext ?_
  cases l with
  | nil => simp [joinA, Lib.join_nil]
  | cons x r =>
    unfold joinA
    rw [data_app, tailA_data, List.map_cons, Lib.join_cons]
theorem strings_Join.ev (z : Bool) (l : List ByteArray) (by_ : ByteArray) {P : Nat} (h : ∀ x ∈ l, x.size ≤ P) (hl : l.length ≤ 140737488355328) (hs : l.length * (by_.size + P) ≤ 140737488355328) : Ev (fun k => strings_Join.f k z (l.map T.str) by_) (joinA by_ l) := by
  simp only [strings_Join.f]
  refine ev_pos ?_ (ev_some (joinB_eq by_ l))
  unfold joinOk
  have := joinA_sz (by_ := by_) h
  rw [joinB_eq]
  simp only [Bool.and_eq_true, decide_eq_true_eq, List.length_map]
  exact ⟨⟨by simp [isStr], hl⟩, by omega⟩
theorem strA_at {l : List ByteArray} {i : Nat} (h : i < l.length) : ((((l.map T.str).getD i .bad).cells.getD 0 .bad)).toStr = l[i] := by
  simp [List.getD_eq_getElem?_getD, h, T.cells, T.toStr]
theorem map_app {α : Type} (f : α → ByteArray) (l : List α) (n : Nat) (h : n < l.length) : ((l.take n).map f).map T.str ++ [T.str (f l[n])] = ((l.take (n + 1)).map f).map T.str := by
  rw [List.take_succ_eq_append_getElem h, List.map_append, List.map_append]
  rfl

def rowT' (r : Row) : ByteArray := numT r.f0 ++ (⟨#[58]⟩ : ByteArray) ++ hexT r.f1
theorem rowT_sz {r : Row} (h : r.f1.length ≤ 1048576) : (rowT' r).size ≤ 2100000 := by
  have := numT_sz r.f0
  have := hexT_sz r.f1
  unfold rowT'
  simp only [ByteArray.size_append, lit_sz, List.length_cons, List.length_nil]
  omega
def tableT (l : List Row) : ByteArray := if tabOk l = true then (⟨#[116, 97, 98, 108, 101, 32]⟩ : ByteArray) ++ joinA (⟨#[44]⟩ : ByteArray) (l.map rowT') else ⟨#[]⟩
theorem rowsT_sz {l : List Row} (h : ∀ r ∈ l, niceB r.f1) : ∀ x ∈ l.map rowT', x.size ≤ 2100000 := fun x hx => by
  obtain ⟨r, hr, rfl⟩ := List.mem_map.1 hx
  exact rowT_sz (h r hr).1
theorem impl_TableText.ev0 (z : Bool) (l : List Row) (hl : l.length ≤ 1048576) (h : ∀ r ∈ l, niceB r.f1) : ∀ (d n : Nat), n + d = l.length → Ev (fun k => impl_TableText.l0 k (((l.take n).map rowT').map T.str) z (l.map Row.t) (l.length : Int) (n : Int)) ((⟨#[116, 97, 98, 108, 101, 32]⟩ : ByteArray) ++ joinA (⟨#[44]⟩ : ByteArray) (l.map rowT')) := by
  intro d
  induction d with
  | zero =>
    intro n hn
    have h2 := joinA_sz (by_ := (⟨#[44]⟩ : ByteArray)) (rowsT_sz h)
    rw [List.length_map, comma_sz] at h2
    refine ev_step ?_
    simp only [impl_TableText.l0, impl_TableText.l0b]
    rw [List.take_of_length_le (by omega)]
    refine ev_neg (by omega) (Ev.bind (strings_Join.ev false (l.map rowT') _ (rowsT_sz h) (by simp; omega) (by rw [comma_sz]; simp; omega)) (ev_pos ?_ (ev_some rfl)))
    simp only [ByteArray.size_append, lit_sz, List.length_cons, List.length_nil]; omega
  | succ d ih =>
    intro n hn
    have hlt : n < l.length := by omega
    have h1 := numT_sz l[n].f0
    have h2 := hexT_sz l[n].f1
    have h3 := h _ (List.getElem_mem hlt)
    have h4 := h3.1
    have i2 := ih (n + 1) (by omega)
    rw [← map_app rowT' l n hlt] at i2
    refine ev_step ?_
    simp only [impl_TableText.l0, impl_TableText.l0b, List.length_map, Int.toNat_natCast, row_at hlt, Row.c0, Row.c1, Row.c1z, succ_nat n (by omega)]
    refine ev_pos (by omega) (ev_pos (by omega) (ev_pos (by omega) (Ev.bind (impl_NumText.ev _) (ev_pos ?_ (Ev.bind (impl_HexText.ev _ _ h3) (ev_pos ?_ (ev_pos ?_ i2))))))) <;> first | (simp only [ByteArray.size_append, lit_sz, List.length_cons, List.length_nil]; omega) | (simp; omega)
theorem impl_TableText.ev (z : Bool) (l : List Row) (hl : l.length ≤ 1048576) (h : ∀ r ∈ l, niceB r.f1) : Ev (fun k => impl_TableText.f k z (l.map Row.t)) (tableT l) := by
  refine ev_step ?_
  simp only [impl_TableText.f, impl_TableText.b, List.length_map]
  unfold tableT
  refine Ev.bind (impl_TableOk.ev _ _ hl) (ev_ite (fun q => ev_some (by rw [if_neg q])) (fun q => ?_))
  have q : tabOk l = true := by simpa using q
  rw [if_pos q]
  exact impl_TableText.ev0 z l hl h l.length 0 (by omega)
end Go.Proofs.YthocpcfjfgnkgaaDoorG
namespace Go.Proofs.YthocpcfjfgnkgaaDoorG
open Go Go.Proofs.YthocpcfjfgnkgaaDoorRv Go.RowKit
set_option linter.unusedVariables false
set_option linter.unusedSectionVars false
set_option linter.unusedSimpArgs false

section
variable (z : Bool) (l : List Int) (h : l.length ≤ 1048576)
include h
theorem spec_l01New.ex0 : ∀ (d n : Nat) (s : Int), n + d = l.length → ∃ s', Ev (fun k => spec_l01New.l0 k z l s (n : Int)) (z, l, 0, s')
  | 0, n, s, hn => by
    refine ⟨s, ev_step ?_⟩
    simp only [spec_l01New.l0, spec_l01New.l0b]
    exact ev_neg (by omega) (ev_some rfl)
  | d + 1, n, s, hn => by
    by_cases c : n < 4000
    · obtain ⟨s', e⟩ := spec_l01New.ex0 d (n + 1) (Go.bits .and .i64 (wrap64 ((wrap64 ((wrap64 (s * 37)) + (wrap64 (rdI l (n : Int))))) + 7)) 1073741823) (by omega)
      refine ⟨s', ev_step ?_⟩
      simp only [spec_l01New.l0, spec_l01New.l0b]
      refine ev_pos (by omega) (ev_pos (by omega) (ev_pos (by omega) (ev_pos (by omega) ?_)))
      rw [w64s (by omega)]
      exact e
    · refine ⟨s, ev_step ?_⟩
      simp only [spec_l01New.l0, spec_l01New.l0b]
      exact ev_pos (by omega) (ev_neg (by omega) (ev_some rfl))
theorem spec_l01New.ex : ∃ s, Ev (fun k => spec_l01New.f k z l) (z, l, 0, s) := by
  obtain ⟨s, e⟩ := spec_l01New.ex0 z l h l.length 0 (wrap64 ((1611 : Int) + (l.length : Int))) (by omega)
  refine ⟨s, ev_step ?_⟩
  simp only [spec_l01New.f, spec_l01New.b]
  exact e
theorem spec_l01Byte.ex (p s : Int) (hp : 0 ≤ p) : ∃ b p' s', Ev (fun k => spec_l01Byte.f k z l p s) (b, z, l, p', s') ∧ 0 ≤ b ∧ b ≤ 255 ∧ 0 ≤ p' := by
  by_cases c : p < (l.length : Int)
  · refine ⟨Go.bits .and .i64 (wrap64 (Go.bits .and .i64 (Go.bits .xor .i64 (shrI .i64 (wrap64 ((wrap64 (s * 6364136223846793005)) + 1442695040888963407)) 33) (shrI .i64 (wrap64 ((wrap64 (s * 6364136223846793005)) + 1442695040888963407)) 45)) 255 + wrap64 (rdI l p))) 255, wrap64 (p + 1), wrap64 ((wrap64 (s * 6364136223846793005)) + 1442695040888963407), ev_step ?_, (and255 _).1, (and255 _).2, by rw [w64 (by omega) (by omega)]; omega⟩
    simp only [spec_l01Byte.f, spec_l01Byte.b]
    exact ev_pos c (ev_pos hp (ev_pos c (ev_some rfl)))
  · refine ⟨Go.bits .and .i64 (Go.bits .xor .i64 (shrI .i64 (wrap64 ((wrap64 (s * 6364136223846793005)) + 1442695040888963407)) 33) (shrI .i64 (wrap64 ((wrap64 (s * 6364136223846793005)) + 1442695040888963407)) 45)) 255, p, wrap64 ((wrap64 (s * 6364136223846793005)) + 1442695040888963407), ev_step ?_, (and255 _).1, (and255 _).2, hp⟩
    simp only [spec_l01Byte.f, spec_l01Byte.b]
    exact ev_neg c (ev_some rfl)
theorem spec_l01Below.ex (p s n : Int) (hp : 0 ≤ p) : ∃ b p' s', Ev (fun k => spec_l01Below.f k z l p s n) (b, z, l, p', s') ∧ 0 ≤ p' ∧ (0 < n → 0 ≤ b ∧ b < n) ∧ (n ≤ 0 → b = 0) := by
  by_cases c : n ≤ 0
  · refine ⟨0, p, s, ev_step ?_, hp, by omega, fun _ => rfl⟩
    simp only [spec_l01Below.f, spec_l01Below.b]
    exact ev_pos c (ev_some rfl)
  · by_cases d : n ≤ 256
    · obtain ⟨b, p1, s1, e, b0, b1, hp1⟩ := spec_l01Byte.ex z l h p s hp
      refine ⟨Int.tmod b n, p1, s1, ev_step ?_, hp1, fun hn => ⟨Int.tmod_nonneg _ b0, Int.tmod_lt_of_pos _ hn⟩, by omega⟩
      simp only [spec_l01Below.f, spec_l01Below.b]
      exact ev_neg c (ev_pos d (Ev.bind e (by simp only [Bool.not_eq_true', decide_eq_false_iff_not]; rw [show decide (n = 0) = false from decide_eq_false (by omega)]; exact ev_some rfl)))
    · obtain ⟨b1, p1, s1, e1, b10, b11, hp1⟩ := spec_l01Byte.ex z l h p s hp
      obtain ⟨b2, p2, s2, e2, b20, b21, hp2⟩ := spec_l01Byte.ex z l h p1 s1 hp1
      obtain ⟨b3, p3, s3, e3, b30, b31, hp3⟩ := spec_l01Byte.ex z l h p2 s2 hp2
      obtain ⟨b4, p4, s4, e4, b40, b41, hp4⟩ := spec_l01Byte.ex z l h p3 s3 hp3
      refine ⟨Int.tmod (b1 * 16777216 + b2 * 65536 + b3 * 256 + b4) n, p4, s4, ev_step ?_, hp4, fun hn => ⟨Int.tmod_nonneg _ (by omega), Int.tmod_lt_of_pos _ hn⟩, by omega⟩
      simp only [spec_l01Below.f, spec_l01Below.b]
      refine ev_neg c (ev_neg d (Ev.bind e1 (Ev.bind e2 (Ev.bind e3 (Ev.bind e4 ?_)))))
      simp only
      rw [show decide (n = 0) = false from decide_eq_false (by omega), w64 (n := b1 * 16777216) (by omega) (by omega), w64 (n := b2 * 65536) (by omega) (by omega), w64 (n := b3 * 256) (by omega) (by omega), w64 (n := b1 * 16777216 + b2 * 65536) (by omega) (by omega), w64 (n := b1 * 16777216 + b2 * 65536 + b3 * 256) (by omega) (by omega), w64 (by omega) (by omega)]
      exact ev_some rfl
theorem spec_l01Pick.ex (p s : Int) (y : Bool) (xs : List Int) (hp : 0 ≤ p) (hx : 0 < xs.length) : ∃ b p' s', Ev (fun k => spec_l01Pick.f k z l p s y xs) (b, z, l, p', s') ∧ 0 ≤ p' ∧ b ∈ xs := by
  obtain ⟨b, p1, s1, e, hp1, hb, _⟩ := spec_l01Below.ex z l h p s (xs.length : Int) hp
  obtain ⟨b0, b1⟩ := hb (by omega)
  refine ⟨rdI xs b, p1, s1, ev_step ?_, hp1, ?_⟩
  · simp only [spec_l01Pick.f, spec_l01Pick.b]
    exact Ev.bind e (ev_pos b0 (ev_pos b1 (ev_some rfl)))
  · obtain ⟨m, rfl⟩ := Int.eq_ofNat_of_zero_le b0
    rw [rdI_nat (by omega)]
    exact List.getElem_mem _
theorem spec_l10Draw.ex (p s : Int) (hp : 0 ≤ p) : ∃ n tx txs fr hd p' s', Ev (fun k => spec_l10Draw.f k z l p s) (n, tx, txs, fr, hd, z, l, p', s') ∧ 0 ≤ p' ∧ (1 ≤ n ∧ n ≤ 10) ∧ (0 ≤ tx ∧ tx ≤ 40) ∧ (0 ≤ txs ∧ txs ≤ 8) ∧ (60 ≤ fr ∧ fr ≤ 4000) ∧ (3 ≤ hd ∧ hd ≤ 5) := by
  obtain ⟨n, p1, s1, e1, hp1, h1⟩ := spec_l01Pick.ex z l h p s false ([1, 3, 4, 4, 7, 9, 10] : List Int) hp (by decide)
  obtain ⟨tx, p2, s2, e2, hp2, h2⟩ := spec_l01Pick.ex z l h p1 s1 false ([0, 4, 8, 40] : List Int) hp1 (by decide)
  obtain ⟨txs, p3, s3, e3, hp3, h3⟩ := spec_l01Pick.ex z l h p2 s2 false ([0, 3, 8] : List Int) hp2 (by decide)
  obtain ⟨fr, p4, s4, e4, hp4, h4⟩ := spec_l01Pick.ex z l h p3 s3 false ([4000, 4000, 300, 60] : List Int) hp3 (by decide)
  obtain ⟨hd, p5, s5, e5, hp5, h5, _⟩ := spec_l01Below.ex z l h p4 s4 3 hp4
  have h5 := h5 (by decide)
  simp only [List.mem_cons, List.not_mem_nil, or_false] at h1 h2 h3 h4
  refine ⟨n, tx, txs, fr, (wrap64 ((3 : Int) + hd)), p5, s5, ev_step ?_, hp5, by omega, by omega, by omega, by omega, by rw [w64 (by omega) (by omega)]; omega⟩
  simp only [spec_l10Draw.f, spec_l10Draw.b]
  exact Ev.bind e1 (Ev.bind e2 (Ev.bind e3 (Ev.bind e4 (Ev.bind e5 (ev_some rfl)))))
end
def rowDrawn (r : Row) : Prop := (1 ≤ r.f0 ∧ r.f0 ≤ 1099511627776) ∧ r.f1.length = 3 ∧ bytesOk r.f1
theorem spec_l21Draw.ex0 (z : Bool) (l : List Int) (h : l.length ≤ 1048576) (n : Nat) (hn : n ≤ 10) : ∀ (d i : Nat) (p s : Int) (y : Bool) (rows : List Row), i + d = n → rows.length = i → (∀ r ∈ rows, rowDrawn r) → 0 ≤ p → ∃ (y' : Bool) (rows' : List Row) (p' s' : Int), Ev (fun k => spec_l21Draw.l0 k (n : Int) (i : Int) z l p s y (rows.map Row.t)) (y', rows'.map Row.t, z, l, p', s') ∧ rows'.length = n ∧ (∀ r ∈ rows', rowDrawn r) ∧ 0 ≤ p'
  | 0, i, p, s, y, rows, hi, hr, ha, hp => by
    refine ⟨y, rows, p, s, ev_step ?_, by omega, ha, hp⟩
    simp only [spec_l21Draw.l0, spec_l21Draw.l0b]
    exact ev_neg (by omega) (ev_some rfl)
  | d + 1, i, p, s, y, rows, hi, hr, ha, hp => by
    obtain ⟨b, p1, s1, e1, hp1, h1, _⟩ := spec_l01Below.ex z l h p s 9 hp
    have h1 := h1 (by decide)
    obtain ⟨wt, p2, s2, e2, hp2, h2⟩ := spec_l01Pick.ex z l h p1 s1 false ([1, 1, 1, 2, 5, 1099511627776, wrap64 (1 + b)] : List Int) hp1 (by simp)
    obtain ⟨c, p3, s3, e3, hp3, h3, _⟩ := spec_l01Below.ex z l h p2 s2 9 hp2
    have h3 := h3 (by decide)
    have hw : 1 ≤ wt ∧ wt ≤ 1099511627776 := by
      rw [w64 (by omega) (by omega)] at h2
      simp only [List.mem_cons, List.not_mem_nil, or_false] at h2
      omega
    obtain ⟨y', rows', p', s', e, q1, q2, q3⟩ := spec_l21Draw.ex0 z l h n hn d (i + 1) p3 s3 false (rows ++ [⟨wt, false, [((i : Int)) % 256, c % 256, 1]⟩]) (by omega) (by simp; omega) (fun r hr' => by
      rcases List.mem_append.1 hr' with hr' | hr'
      · exact ha r hr'
      · rw [List.mem_singleton.1 hr']
        refine ⟨hw, rfl, fun x hx => ?_⟩
        simp only [List.mem_cons, List.not_mem_nil, or_false] at hx
        omega) hp3
    refine ⟨y', rows', p', s', ev_step ?_, q1, q2, q3⟩
    simp only [spec_l21Draw.l0, spec_l21Draw.l0b, List.length_map]
    refine ev_pos (by omega) (Ev.bind e1 (Ev.bind e2 (Ev.bind e3 (ev_pos (by omega) ?_))))
    rw [w64s (by omega)]
    rw [List.map_append] at e
    exact e
theorem spec_l21Draw.ex (z : Bool) (l : List Int) (h : l.length ≤ 1048576) (p s : Int) (hp : 0 ≤ p) (n : Nat) (hn : n ≤ 10) : ∃ (y : Bool) (rows : List Row) (p' s' : Int), Ev (fun k => spec_l21Draw.f k z l p s (n : Int)) (y, rows.map Row.t, z, l, p', s') ∧ rows.length = n ∧ (∀ r ∈ rows, rowDrawn r) ∧ 0 ≤ p' := by
  obtain ⟨y, rows, p', s', e, r⟩ := spec_l21Draw.ex0 z l h n hn n 0 p s true [] (by omega) rfl (by simp) hp
  refine ⟨y, rows, p', s', ev_step ?_, r⟩
  simp only [spec_l21Draw.f, spec_l21Draw.b]
  exact e
theorem drawn_ok {rows : List Row} (h : ∀ r ∈ rows, rowDrawn r) (h1 : 1 ≤ rows.length) (h2 : rows.length ≤ 10) : tabOk rows = true := tabOk_iff.2 ⟨fun r hr => ⟨(h r hr).1, by have := (h r hr).2.1; omega⟩, h1, h2⟩
theorem drawn_rows {rows : List Row} (h : ∀ r ∈ rows, rowDrawn r) (h2 : rows.length ≤ 10) : Rows rows := ⟨by omega, fun r hr => ⟨by have := (h r hr).2.1; omega, (h r hr).2.2⟩⟩
theorem spec_l23Pair.ex (z : Bool) (l : List Int) (h : l.length ≤ 1048576) (p s : Int) (hp : 0 ≤ p) : ∃ (n : Nat) (tx txs hd : Int) (y : Bool) (rows : List Row) (p' s' : Int), Ev (fun k => spec_l23Pair.f k z l p s) ((n : Int), tx, txs, 4000, hd, y, rows.map Row.t, z, l, p', s') ∧ (1 ≤ n ∧ n ≤ 5) ∧ (0 ≤ tx ∧ tx ≤ 40) ∧ (0 ≤ txs ∧ txs ≤ 8) ∧ (3 ≤ hd ∧ hd ≤ 5) ∧ rows.length = n ∧ (∀ r ∈ rows, rowDrawn r) ∧ 0 ≤ p' := by
  obtain ⟨n0, tx, txs, fr, hd, p1, s1, e1, hp1, _, h2, h3, _, h5⟩ := spec_l10Draw.ex z l h p s hp
  obtain ⟨b, p2, s2, e2, hp2, hb, _⟩ := spec_l01Below.ex z l h p1 s1 5 hp1
  have hb := hb (by decide)
  obtain ⟨m, rfl⟩ := Int.eq_ofNat_of_zero_le hb.1
  obtain ⟨y, rows, p3, s3, e3, q1, q2, q3⟩ := spec_l21Draw.ex z l h p2 s2 hp2 (m + 1) (by omega)
  refine ⟨m + 1, tx, txs, hd, y, rows, p3, s3, ev_step ?_, by omega, h2, h3, h5, q1, q2, q3⟩
  have em : wrap64 (1 + (m : Int)) = ((m + 1 : Nat) : Int) := by rw [w64 (by omega) (by omega)]; omega
  simp only [spec_l23Pair.f, spec_l23Pair.b]
  refine Ev.bind e1 (Ev.bind e2 ?_)
  simp only [em]
  exact Ev.bind e3 (ev_some rfl)
theorem spec_MakeTable.ex (z : Bool) (l : List Int) (h : l.length ≤ 1048576) : ∃ (n : Nat) (tx txs hd : Int) (y : Bool) (rows : List Row), Ev (fun k => spec_MakeTable.f k z l) ((n : Int), tx, txs, 4000, hd, y, rows.map Row.t) ∧ (1 ≤ n ∧ n ≤ 5) ∧ (0 ≤ tx ∧ tx ≤ 40) ∧ (0 ≤ txs ∧ txs ≤ 8) ∧ (3 ≤ hd ∧ hd ≤ 5) ∧ rows.length = n ∧ (∀ r ∈ rows, rowDrawn r) := by
  obtain ⟨s, e⟩ := spec_l01New.ex z l h
  obtain ⟨n, tx, txs, hd, y, rows, p', s', e', h1, h2, h3, h4, h5, h6, _⟩ := spec_l23Pair.ex z l h 0 s (by omega)
  refine ⟨n, tx, txs, hd, y, rows, ev_step ?_, h1, h2, h3, h4, h5, h6⟩
  simp only [spec_MakeTable.f, spec_MakeTable.b]
  exact Ev.bind e (Ev.bind e' (ev_some rfl))
end Go.Proofs.YthocpcfjfgnkgaaDoorG
namespace Go.Proofs.YthocpcfjfgnkgaaDoorG
open Go Go.Proofs.YthocpcfjfgnkgaaDoorRv Go.RowKit
set_option linter.unusedVariables false
set_option linter.unusedSimpArgs false


theorem idx_app {c : UInt8} : ∀ {x : List UInt8} (r : List UInt8), c ∉ x → Lib.index (x ++ c :: r) [c] = (x.length : Int)
  | [], r, _ => by simp [Lib.index, List.isPrefixOf]
  | b :: x, r, h => by
    have hb : b ≠ c := fun e => h (by simp [e])
    have ih := idx_app (x := x) r (fun hm => h (List.mem_cons_of_mem _ hm))
    rw [List.cons_append, Lib.index]
    have h0 : ([c] : List UInt8).isPrefixOf (b :: (x ++ c :: r)) = false := by simp [List.isPrefixOf, Ne.symm hb]
    have h1 : ((x.length : Int) == -1) = false := by rw [beq_eq_false_iff_ne]; omega
    rw [h0, ih, h1]
    simp
def inter (c : UInt8) : List (List UInt8) → List UInt8
  | [] => []
  | [x] => x
  | x :: y :: r => x ++ c :: inter c (y :: r)
theorem inter_flat (c : UInt8) : ∀ (x : List UInt8) (r : List (List UInt8)), inter c (x :: r) = x ++ r.flatMap fun y => c :: y
  | x, [] => by simp [inter]
  | x, y :: r => by
    rw [inter, inter_flat c y r]
    simp
theorem splitK_inter {c : UInt8} : ∀ (x : List UInt8) (r : List (List UInt8)), (∀ y ∈ x :: r, c ∉ y) → Lib.splitK [c] 0 r.length (inter c (x :: r)) = x :: r
  | x, [], _ => rfl
  | x, y :: r, h => by
    have e := idx_app (inter c (y :: r)) (h x (by simp))
    have ih := splitK_inter y r fun z hz => h z (by simp [hz])
    have h1 : ((x.length : Int) == -1) = false := by rw [beq_eq_false_iff_ne]; omega
    show Lib.splitK [c] 0 (r.length + 1) (x ++ c :: inter c (y :: r)) = _
    rw [Lib.splitK, e, h1]
    have e1 : (x ++ c :: inter c (y :: r)).take ((x.length : Int).toNat + 0) = x := by
      rw [Int.toNat_natCast, Nat.add_zero]
      exact List.take_left' rfl
    have e2 : (x ++ c :: inter c (y :: r)).drop ((x.length : Int).toNat + [c].length) = inter c (y :: r) := by
      rw [Int.toNat_natCast]
      have : x ++ c :: inter c (y :: r) = (x ++ [c]) ++ inter c (y :: r) := by simp
      rw [this]
      exact List.drop_left' (by simp)
    rw [if_neg (by simp), e1, e2, ih]
theorem count_inter {c : UInt8} : ∀ (x : List UInt8) (r : List (List UInt8)), (∀ y ∈ x :: r, c ∉ y) → (inter c (x :: r)).count c = r.length
  | x, [], h => by
    rw [inter]
    exact List.count_eq_zero.2 (h x (by simp))
  | x, y :: r, h => by
    have ih := count_inter y r fun z hz => h z (by simp [hz])
    rw [inter, List.count_append, List.count_cons_self, ih, List.count_eq_zero.2 (h x (by simp))]
    simp
theorem str_data (l : List UInt8) : (str l).data.toList = l := by simp [str]
theorem data_str (s : ByteArray) : str s.data.toList = s := by cases s; simp [str]
theorem splitL_inter {c : UInt8} {s : ByteArray} {x : List UInt8} {r : List (List UInt8)} (h : ∀ y ∈ x :: r, c ∉ y) (hs : s.data.toList = inter c (x :: r)) : splitL s ⟨#[c]⟩ = (x :: r).map str := by
  have hc : Lib.countB s ⟨#[c]⟩ = r.length := by
    show Lib.count s.data.toList [c] = _
    rw [Lib.count_one, hs, count_inter x r h]
  have hd := Lib.splitB_data ⟨#[c]⟩ 0 r.length s
  have e : (ByteArray.mk #[c]).data.toList = [c] := rfl
  rw [e, hs, splitK_inter x r h] at hd
  unfold splitL
  rw [hc, ← hd, List.map_map]
  have : (str ∘ fun s : ByteArray => s.data.toList) = id := by funext s; exact data_str s
  rw [this, List.map_id]
theorem cut_app {c : UInt8} {s : ByteArray} {x r : List UInt8} (h : c ∉ x) (hs : s.data.toList = x ++ c :: r) : cutL s ⟨#[c]⟩ = str x ∧ cutR s ⟨#[c]⟩ = str r := by
  have e : (ByteArray.mk #[c]).data.toList = [c] := rfl
  have hi := idx_app r h
  have hc : Lib.cut (x ++ c :: r) [c] = (x, r, true) := by
    unfold Lib.cut
    rw [hi, if_pos (by omega), Int.toNat_natCast]
    have : x ++ c :: r = (x ++ [c]) ++ r := by simp
    rw [List.take_left' rfl, this, List.drop_left' (by simp)]
  unfold cutL cutR
  rw [e, hs, hc]
  exact ⟨rfl, rfl⟩
theorem pre_app {s p : ByteArray} {r : List UInt8} (hs : s.data.toList = p.data.toList ++ r) : preT s p = str r ∧ preB s p = true := by
  have hp : Lib.hasPrefix s.data.toList p.data.toList = true := by
    unfold Lib.hasPrefix
    rw [hs]
    exact List.isPrefixOf_iff_prefix.2 ⟨r, rfl⟩
  refine ⟨?_, hp⟩
  unfold preT Lib.trimPrefix
  rw [if_pos hp, hs, List.drop_left' rfl]
  rfl


theorem dig_nat {d : Nat} (h : d < 10) : (UInt8.ofNat (48 + d)).toNat = 48 + d := by
  simp
  omega
theorem digits_mem : ∀ (d u : Nat), u < 10 ^ (d + 1) → ∀ b ∈ Lib.decDigits u, 48 ≤ b.toNat ∧ b.toNat ≤ 57 := by
  intro d
  induction d with
  | zero =>
    intro u h b hb
    rw [Lib.decDigits, dif_pos (by simpa using h)] at hb
    rw [List.mem_singleton.1 hb, dig_nat (by simpa using h)]
    have : u < 10 := by simpa using h
    omega
  | succ d ih =>
    intro u h b hb
    have e : 10 ^ (d + 1 + 1) = 10 ^ (d + 1) * 10 := Nat.pow_succ 10 (d + 1)
    by_cases c : u < 10
    · rw [Lib.decDigits, dif_pos c] at hb
      rw [List.mem_singleton.1 hb, dig_nat c]
      omega
    · rw [Lib.decDigits, dif_neg c] at hb
      rcases List.mem_append.1 hb with hb | hb
      · exact ih (u / 10) (by omega) b hb
      · rw [List.mem_singleton.1 hb, dig_nat (by omega)]
        omega
theorem parse_snoc : ∀ (l : List UInt8) (acc v d : Nat), Lib.parseUint10 acc l = .ok v → d < 10 → v < 1844674407370955162 → v * 10 + d < 18446744073709551616 → Lib.parseUint10 acc (l ++ [UInt8.ofNat (48 + d)]) = .ok (v * 10 + d)
  | [], acc, v, d, h, hd, h1, h2 => by
    simp only [Lib.parseUint10] at h
    injection h with h
    subst h
    rw [List.nil_append, Lib.parseUint10, dig_nat hd, if_pos ⟨by omega, by omega⟩, if_neg (by omega), if_neg (by omega), show 48 + d - 48 = d by omega, Lib.parseUint10]
  | c :: r, acc, v, d, h, hd, h1, h2 => by
    rw [List.cons_append]
    rw [Lib.parseUint10] at h ⊢
    split at h
    · rename_i q
      rw [if_pos q]
      split at h
      · cases h
      · rename_i q2
        rw [if_neg q2]
        split at h
        · cases h
        · rename_i q3
          rw [if_neg q3]
          exact parse_snoc r _ v d h hd h1 h2
    · cases h
theorem parse_digits : ∀ (k u : Nat), u < 10 ^ (k + 1) → u < 9223372036854775808 → Lib.parseUint10 0 (Lib.decDigits u) = .ok u := by
  have one : ∀ u, u < 10 → Lib.parseUint10 0 (Lib.decDigits u) = .ok u := fun u c => by
    have := parse_snoc [] 0 0 u rfl c (by decide) (by omega)
    rw [Lib.decDigits, dif_pos c]
    simpa using this
  intro k
  induction k with
  | zero => exact fun u h _ => one u (by simpa using h)
  | succ k ih =>
    intro u h hu
    have e : 10 ^ (k + 1 + 1) = 10 ^ (k + 1) * 10 := Nat.pow_succ 10 (k + 1)
    by_cases c : u < 10
    · exact one u c
    · have := parse_snoc _ 0 (u / 10) (u % 10) (ih (u / 10) (by omega) (by omega)) (by omega) (by omega) (by omega)
      rw [Lib.decDigits, dif_neg c, this]
      congr 1
      omega
theorem atoi_digits {u : Nat} (h : u ≤ 1152921504606846975) : Lib.atoiAll (Lib.decDigits u) = .ok (u : Int) := by
  have hp := parse_digits 18 u (by omega) (by omega)
  have hm := digits_mem 18 u (by omega)
  cases hd : Lib.decDigits u with
  | nil => exact (digits_pos u hd).elim
  | cons c r =>
    rw [hd] at hp hm
    have hc := hm c (by simp)
    unfold Lib.atoiAll
    simp only
    rw [if_neg (by omega)]
    unfold Lib.parseMag
    rw [if_neg (by simp), hp]
    simp only
    rw [if_neg (by omega), if_neg (by omega), if_neg (by omega)]
theorem numT_data {n : Int} (h : isNum n = true) : (numT n).data.toList = Lib.decDigits n.toNat := by
  have h1 := isNum_iff.1 h
  unfold numT
  rw [if_pos h, itoa_pos h1.1, str_data]
theorem numT_mem {n : Int} (h : isNum n = true) : ∀ b ∈ (numT n).data.toList, 48 ≤ b.toNat ∧ b.toNat ≤ 57 := by
  have h1 := isNum_iff.1 h
  rw [numT_data h]
  exact digits_mem 18 _ (by omega)
theorem numT_atoi {n : Int} (h : isNum n = true) : atoiOk (numT n) = true ∧ atoiV (numT n) = n := by
  have h1 := isNum_iff.1 h
  have hsz := numT_sz n
  have ha := atoi_digits (u := n.toNat) (by omega)
  rw [← numT_data h, show ((n.toNat : Nat) : Int) = n by omega] at ha
  unfold atoiOk atoiV
  rw [ha]
  exact ⟨by rw [decide_eq_true (by omega)]; rfl, rfl⟩


theorem idx_hex : ∀ n : Fin 16, idxB (⟨#[48, 49, 50, 51, 52, 53, 54, 55, 56, 57, 97, 98, 99, 100, 101, 102]⟩ : ByteArray) (hexd ((n.val : Nat) : Int)) = ((n.val : Nat) : Int) := by decide +kernel
theorem idx_hexd {n : Int} (h0 : 0 ≤ n) (h1 : n < 16) : idxB (⟨#[48, 49, 50, 51, 52, 53, 54, 55, 56, 57, 97, 98, 99, 100, 101, 102]⟩ : ByteArray) (hexd n) = n := by
  have := idx_hex ⟨n.toNat, by omega⟩
  simp only at this
  rwa [show ((n.toNat : Nat) : Int) = n by omega] at this
theorem hexd_bd {n : Int} (h0 : 0 ≤ n) (h1 : n < 16) : 48 ≤ hexd n ∧ hexd n ≤ 102 := by
  unfold hexd
  split <;> omega
theorem hex_bytes : ∀ {l : List Int}, bytesOk l → ∀ x ∈ hex l, 48 ≤ x ∧ x ≤ 102
  | [], _, x, hx => by simp [hex] at hx
  | b :: l, h, x, hx => by
    have hb := h b (by simp)
    rw [hex] at hx
    rcases List.mem_cons.1 hx with rfl | hx
    · exact hexd_bd (by omega) (by omega)
    · rcases List.mem_cons.1 hx with rfl | hx
      · exact hexd_bd (by omega) (by omega)
      · exact hex_bytes (fun y hy => h y (by simp [hy])) x hx
theorem hex_drop : ∀ (n : Nat) (l : List Int), (hex l).drop (2 * n) = hex (l.drop n)
  | 0, l => rfl
  | n + 1, [] => by simp [hex]
  | n + 1, x :: l => by
    have : 2 * (n + 1) = 2 * n + 1 + 1 := by omega
    rw [this, hex, List.drop_succ_cons, List.drop_succ_cons, List.drop_succ_cons]
    exact hex_drop n l
theorem bt_strOf {L : List Int} (h : ∀ x ∈ L, 0 ≤ x ∧ x < 256) {i : Nat} (hi : i < L.length) : btI (strOf L) (i : Int) = L[i] := by
  have hb := h _ (List.getElem_mem hi)
  unfold btI
  rw [dif_pos (by rw [strOf_sz, Int.toNat_natCast]; exact hi)]
  have e : ((strOf L)[(i : Int).toNat]'(by rw [strOf_sz, Int.toNat_natCast]; exact hi)) = UInt8.ofNat (L[i]).toNat := by
    simp [strOf, ByteArray.getElem_eq_getElem_data]
  rw [e]
  simp
  omega
theorem strOf_data (L : List Int) : (strOf L).data.toList = L.map fun n => UInt8.ofNat n.toNat := by simp [strOf]
theorem hexT_mem {l : List Int} (h : bytesOk l) : ∀ b ∈ (hexT l).data.toList, 48 ≤ b.toNat ∧ b.toNat ≤ 102 := by
  intro b hb
  unfold hexT at hb
  rw [strOf_data] at hb
  obtain ⟨x, hx, rfl⟩ := List.mem_map.1 hb
  have := hex_bytes h x hx
  simp
  omega
end Go.Proofs.YthocpcfjfgnkgaaDoorG
namespace Go.Proofs.YthocpcfjfgnkgaaDoorG
open Go Go.Proofs.YthocpcfjfgnkgaaDoorRv Go.RowKit
set_option linter.unusedVariables false
set_option linter.unusedSimpArgs false

theorem strings_Split.ev {s sep : ByteArray} (h : s.size ≤ 1000000000) (h1 : 1 ≤ sep.size) : Ev (fun k => strings_Split.f k s sep) (false, splitT s sep) := by
  simp only [strings_Split.f]
  refine ev_pos ?_ (ev_some rfl)
  unfold splitOk
  rw [decide_eq_true (by omega), decide_eq_true h1]
  rfl
theorem impl_TextNum.ev {n : Int} (h : isNum n = true) : Ev (fun k => impl_TextNum.f k (numT n)) (n, true) := by
  obtain ⟨h1, h2⟩ := numT_atoi h
  have A : Ev (fun k => strconv_Atoi.f k (numT n)) n := by
    simp only [strconv_Atoi.f]
    exact ev_pos h1 (ev_some h2)
  refine ev_step ?_
  simp only [impl_TextNum.f, impl_TextNum.b]
  exact Ev.bind A (Ev.bind (impl_isNum.ev n) (ev_neg (by simp [h]) (Ev.bind (impl_NumText.ev n) (ev_neg (by simp) (ev_some rfl)))))
def limT (l : List Int) : ByteArray := l.foldl (fun s n => s ++ ((⟨#[32]⟩ : ByteArray) ++ numT n)) (⟨#[108, 105, 109, 105, 116, 115]⟩ : ByteArray)
theorem limT_data : ∀ (l : List Int) (s : ByteArray), (l.foldl (fun s n => s ++ ((⟨#[32]⟩ : ByteArray) ++ numT n)) s).data.toList = s.data.toList ++ (l.map fun n => (numT n).data.toList).flatMap fun y => 32 :: y
  | [], s => by simp
  | n :: l, s => by
    rw [List.foldl_cons, limT_data l, data_app, data_app, List.map_cons, List.flatMap_cons]
    simp
theorem limT_sz : ∀ (l : List Int) (s : ByteArray), (l.foldl (fun s n => s ++ ((⟨#[32]⟩ : ByteArray) ++ numT n)) s).size ≤ s.size + 21 * l.length
  | [], s => by simp
  | n :: l, s => by
    have h1 := limT_sz l (s ++ ((⟨#[32]⟩ : ByteArray) ++ numT n))
    have h2 := numT_sz n
    have e : (⟨#[32]⟩ : ByteArray).size = 1 := rfl
    rw [ByteArray.size_append, ByteArray.size_append, e] at h1
    rw [List.foldl_cons, List.length_cons]
    omega
theorem impl_LimitsText.ev {a b c d e : Int} (h : limitsOk a b c d e = true) : Ev (fun k => impl_LimitsText.f k a b c d e) (limT [a, b, c, d, e]) := by
  refine ev_step ?_
  simp only [impl_LimitsText.f, impl_LimitsText.b]
  refine Ev.bind (impl_LimitsOk.ev a b c d e) (ev_neg (by simp [h]) ?_)
  generalize hL : ([a, b, c, d, e] : List Int) = L
  have hl : L.length = 5 := by rw [← hL]; rfl
  have key : ∀ (m n : Nat), n + m = 5 → Ev (fun k => impl_LimitsText.l0 k (limT (L.take n)) L (n : Int)) (limT L) := by
    intro m
    induction m with
    | zero =>
      intro n hn
      refine ev_step ?_
      simp only [impl_LimitsText.l0, impl_LimitsText.l0b]
      refine ev_neg (by omega) (ev_some ?_)
      rw [List.take_of_length_le (by omega)]
    | succ m ih =>
      intro n hn
      have hlt : n < L.length := by omega
      have i2 := ih (n + 1) (by omega)
      rw [List.take_succ_eq_append_getElem hlt] at i2
      have e1 : limT (L.take n ++ [L[n]]) = limT (L.take n) ++ ((⟨#[32]⟩ : ByteArray) ++ numT L[n]) := by
        unfold limT
        rw [List.foldl_append]
        rfl
      rw [e1] at i2
      have s1 := limT_sz (L.take n) (⟨#[108, 105, 109, 105, 116, 115]⟩ : ByteArray)
      have s2 := numT_sz L[n]
      have e6 : (⟨#[108, 105, 109, 105, 116, 115]⟩ : ByteArray).size = 6 := rfl
      have e7 : (⟨#[32]⟩ : ByteArray).size = 1 := rfl
      have s3 : (limT (L.take n)).size ≤ 200 := by
        unfold limT
        rw [e6, List.length_take] at s1
        omega
      refine ev_step ?_
      simp only [impl_LimitsText.l0, impl_LimitsText.l0b, succ_nat n (by omega), rdI_nat hlt]
      refine ev_pos (by omega) (ev_pos (by omega) (ev_pos (by omega) (Ev.bind (impl_NumText.ev L[n]) (ev_pos (by rw [e7]; omega) (ev_pos ?_ i2)))))
      rw [ByteArray.size_append, e7]
      omega
  exact key 5 0 (by omega)
theorem lim_words {L : List Int} (h : ∀ n ∈ L, isNum n = true) : splitL (limT L) (⟨#[32]⟩ : ByteArray) = str [108, 105, 109, 105, 116, 115] :: L.map numT := by
  have hs : (limT L).data.toList = inter 32 ([108, 105, 109, 105, 116, 115] :: L.map fun n => (numT n).data.toList) := by
    rw [inter_flat]
    unfold limT
    rw [limT_data]
  rw [splitL_inter (fun y hy => ?_) hs, List.map_cons, List.map_map]
  · have : (str ∘ fun n => (numT n).data.toList) = numT := by funext n; exact data_str _
    rw [this]
  · rcases List.mem_cons.1 hy with rfl | hy
    · decide
    · obtain ⟨n, hn, rfl⟩ := List.mem_map.1 hy
      intro hm
      have := numT_mem (h n hn) 32 hm
      simp at this
theorem impl_TextLimits.ev {a b c d e : Int} (h : limitsOk a b c d e = true) : Ev (fun k => impl_TextLimits.f k (limT [a, b, c, d, e])) (a, b, c, d, e, true) := by
  have hb : (1 ≤ a ∧ a ≤ 10) ∧ (0 ≤ b ∧ b ≤ 40) ∧ (0 ≤ c ∧ c ≤ 8) ∧ (1 ≤ d ∧ d ≤ 4000) ∧ (3 ≤ e ∧ e ≤ 5) := by simpa [limitsOk] using h
  have nm : ∀ n ∈ ([a, b, c, d, e] : List Int), isNum n = true := fun n hn => by
    simp only [List.mem_cons, List.mem_nil_iff, or_false] at hn
    rw [isNum_iff]
    omega
  have W := lim_words nm
  have TL := impl_LimitsText.ev h
  have s1 := limT_sz [a, b, c, d, e] (⟨#[108, 105, 109, 105, 116, 115]⟩ : ByteArray)
  have e6 : (⟨#[108, 105, 109, 105, 116, 115]⟩ : ByteArray).size = 6 := rfl
  have C : Ev (fun k => impl_Cut.f k (limT [a, b, c, d, e])) (false, (str [108, 105, 109, 105, 116, 115] :: ([a, b, c, d, e] : List Int).map numT).map T.str) := by
    refine ev_step ?_
    simp only [impl_Cut.f, impl_Cut.b]
    have S := strings_Split.ev (s := limT [a, b, c, d, e]) (sep := (⟨#[32]⟩ : ByteArray)) (by unfold limT; rw [e6] at s1; simp only [List.length_cons, List.length_nil] at s1; omega) (by decide)
    unfold splitT at S
    rw [W] at S
    exact Ev.bind S (ev_some rfl)
  refine ev_step ?_
  simp only [impl_TextLimits.f, impl_TextLimits.b]
  refine Ev.bind C (ev_neg (by simp) ?_)
  have st : ∀ (i : Nat) (n : Int) (A : List Int) (R : Int × Int × Int × Int × Int × Bool), i < 6 → 1 ≤ i → (str [108, 105, 109, 105, 116, 115] :: ([a, b, c, d, e] : List Int).map numT).getD i ⟨#[]⟩ = numT n → isNum n = true →
      Ev (fun k => impl_TextLimits.l0 k (limT [a, b, c, d, e]) false ((str [108, 105, 109, 105, 116, 115] :: ([a, b, c, d, e] : List Int).map numT).map T.str) ((i + 1 : Nat) : Int) (A.set i n)) R →
      Ev (fun k => impl_TextLimits.l0 k (limT [a, b, c, d, e]) false ((str [108, 105, 109, 105, 116, 115] :: ([a, b, c, d, e] : List Int).map numT).map T.str) (i : Int) A) R := by
    intro i n A R hi h1 hg hn K
    generalize hWs : (str [108, 105, 109, 105, 116, 115] :: ([a, b, c, d, e] : List Int).map numT) = Ws at *
    have hl : Ws.length = 6 := by rw [← hWs]; rfl
    have hlt : i < Ws.length := by omega
    have hg2 : Ws[i] = numT n := by
      rw [← hg, List.getD_eq_getElem?_getD, List.getElem?_eq_getElem hlt]
      rfl
    refine ev_step ?_
    simp only [impl_TextLimits.l0, impl_TextLimits.l0b, Int.toNat_natCast, strA_at hlt, hg2, succ_nat i (by omega), List.length_map]
    exact ev_pos (by omega) (ev_pos (by omega) (ev_pos (by omega) (Ev.bind (impl_TextNum.ev hn) (ev_pos (by omega) (ev_pos (by omega) K)))))
  refine st 1 a _ _ (by omega) (by omega) rfl (nm a (by simp)) (st 2 b _ _ (by omega) (by omega) rfl (nm b (by simp)) (st 3 c _ _ (by omega) (by omega) rfl (nm c (by simp)) (st 4 d _ _ (by omega) (by omega) rfl (nm d (by simp)) (st 5 e _ _ (by omega) (by omega) rfl (nm e (by simp)) ?_))))
  refine ev_step ?_
  simp only [impl_TextLimits.l0, impl_TextLimits.l0b]
  refine ev_neg (by omega) ?_
  show Ev (fun k => (impl_LimitsText.f k a b c d e).bind fun t0 => cond (!decide (t0 = limT [a, b, c, d, e])) (some (0, 0, 0, 0, 0, false)) (some (a, b, c, d, e, true))) _
  exact Ev.bind TL (ev_neg (by simp) (ev_some rfl))
theorem bt_hex {l : List Int} (h : niceB l) {n : Nat} (hn : n < l.length) : btI (hexT l) ((2 * n : Nat) : Int) = hexd (l[n] / 16) ∧ btI (hexT l) ((2 * n + 1 : Nat) : Int) = hexd (l[n] % 16) := by
  have hb : ∀ x ∈ hex l, 0 ≤ x ∧ x < 256 := fun x hx => by
    have := hex_bytes h.2 x hx
    omega
  have hd := hex_drop n l
  rw [List.drop_eq_getElem_cons hn, hex] at hd
  have hL := hex_length l
  have h0 : (hex l)[2 * n]'(by omega) = hexd (l[n] / 16) := by
    have := congrArg (fun z : List Int => z[0]?) hd
    simpa [List.getElem?_drop, List.getElem?_eq_getElem (show 2 * n < (hex l).length by omega)] using this
  have h1 : (hex l)[2 * n + 1]'(by omega) = hexd (l[n] % 16) := by
    have := congrArg (fun z : List Int => z[1]?) hd
    simpa [List.getElem?_drop, List.getElem?_eq_getElem (show 2 * n + 1 < (hex l).length by omega)] using this
  unfold hexT
  exact ⟨by rw [bt_strOf hb (by omega), h0], by rw [bt_strOf hb (by omega), h1]⟩
theorem impl_TextHex.ev {l : List Int} (h : niceB l) : Ev (fun k => impl_TextHex.f k (hexT l)) (false, l, true) := by
  have hl := h.1
  have hsz := hexT_sz l
  refine ev_step ?_
  simp only [impl_TextHex.f, impl_TextHex.b]
  have e2 : Int.tmod ((hexT l).size : Int) 2 = 0 := by
    rw [hsz, Int.tmod_eq_emod_of_nonneg (by omega)]
    omega
  refine ev_neg (by omega) ?_
  have key : ∀ (d n : Nat), n + d = l.length → Ev (fun k => impl_TextHex.l0 k (hexT l) (l.take n) ((2 * n : Nat) : Int)) (false, l, true) := by
    intro d
    induction d with
    | zero =>
      intro n hn
      refine ev_step ?_
      simp only [impl_TextHex.l0, impl_TextHex.l0b]
      refine ev_neg (by omega) (ev_some ?_)
      rw [List.take_of_length_le (by omega)]
    | succ d ih =>
      intro n hn
      have hlt : n < l.length := by omega
      have hb := h.2 _ (List.getElem_mem hlt)
      obtain ⟨b0, b1⟩ := bt_hex h hlt
      have i2 := ih (n + 1) (by omega)
      rw [List.take_succ_eq_append_getElem hlt] at i2
      have w1 : wrap64 (((2 * n : Nat) : Int) + 1) = ((2 * n + 1 : Nat) : Int) := by rw [w64 (by omega) (by omega)]; omega
      have w2 : wrap64 (((2 * n : Nat) : Int) + 2) = ((2 * (n + 1) : Nat) : Int) := by rw [w64 (by omega) (by omega)]; omega
      have w3 : wrap64 (wrap64 ((16 : Int) * (l[n] / 16)) + l[n] % 16) % 256 = l[n] := by
        rw [w64 (n := (16 : Int) * (l[n] / 16)) (by omega) (by omega), w64 (by omega) (by omega)]
        omega
      have I : ∀ m : Int, 0 ≤ m → m < 16 → Ev (fun k => strings_IndexByte.f k (⟨#[48, 49, 50, 51, 52, 53, 54, 55, 56, 57, 97, 98, 99, 100, 101, 102]⟩ : ByteArray) (hexd m)) m := fun m p q => by
        simp only [strings_IndexByte.f]
        exact ev_some (idx_hexd p q)
      refine ev_step ?_
      simp only [impl_TextHex.l0, impl_TextHex.l0b, w1, w2, b0, b1]
      refine ev_pos (by omega) (ev_pos (by omega) (ev_pos (by omega) (Ev.bind (I (l[n] / 16) (by omega) (by omega)) (ev_pos (by omega) (ev_pos (by omega) (Ev.bind (I (l[n] % 16) (by omega) (by omega)) ?_))))))
      rw [w3]
      exact ev_neg (by omega) (ev_neg (by omega) (ev_pos (by rw [List.length_take]; omega) i2))
  exact key l.length 0 (by omega)
theorem rowT_data (r : Row) : (rowT' r).data.toList = (numT r.f0).data.toList ++ 58 :: (hexT r.f1).data.toList := by
  unfold rowT'
  rw [data_app, data_app]
  simp
theorem joinA_inter (c : UInt8) : ∀ (x : ByteArray) (r : List ByteArray), (joinA (⟨#[c]⟩ : ByteArray) (x :: r)).data.toList = inter c (x.data.toList :: r.map (·.data.toList))
  | x, r => by
    rw [inter_flat]
    unfold joinA
    rw [data_app]
    congr 1
    induction r with
    | nil => simp [tailA]
    | cons y r ih =>
      unfold tailA
      rw [data_app, data_app, ih]
      simp
theorem tabT_cp {rows : List Row} : tableT (rows.map Row.cp) = tableT rows ∧ tabOk (rows.map Row.cp) = tabOk rows := by
  have h2 : tabOk (rows.map Row.cp) = tabOk rows := by
    refine Bool.eq_iff_iff.2 ?_
    rw [tabOk_iff, tabOk_iff, List.length_map]
    constructor
    · rintro ⟨h1, h2⟩
      exact ⟨fun r hr => h1 r.cp (List.mem_map_of_mem hr), h2⟩
    · rintro ⟨h1, h2⟩
      refine ⟨fun r hr => ?_, h2⟩
      obtain ⟨x, hx, rfl⟩ := List.mem_map.1 hr
      exact h1 x hx
  refine ⟨?_, h2⟩
  unfold tableT
  rw [h2, List.map_map]
  rfl
theorem impl_TextTable.ev {rows : List Row} (Tk : tabOk rows = true) (h : ∀ r ∈ rows, niceB r.f1) : Ev (fun k => impl_TextTable.f k (tableT rows)) (false, (rows.map Row.cp).map Row.t, true) := by
  have t1 := tabOk_iff.1 Tk
  have hlen := t1.2
  have nm : ∀ r ∈ rows, isNum r.f0 = true := fun r hr => by
    have := (t1.1 r hr).1
    rw [isNum_iff]
    omega
  have kl : ∀ r ∈ rows, r.f1.length ≤ 64 := fun r hr => by have := (t1.1 r hr).2; omega
  have tt : tableT rows = (⟨#[116, 97, 98, 108, 101, 32]⟩ : ByteArray) ++ joinA (⟨#[44]⟩ : ByteArray) (rows.map rowT') := by unfold tableT; rw [if_pos Tk]
  have P := pre_app (s := tableT rows) (p := (⟨#[116, 97, 98, 108, 101, 32]⟩ : ByteArray)) (r := (joinA (⟨#[44]⟩ : ByteArray) (rows.map rowT')).data.toList) (by rw [tt, data_app])
  rw [data_str] at P
  have Pe : Ev (fun k => strings_CutPrefix.f k (tableT rows) (⟨#[116, 97, 98, 108, 101, 32]⟩ : ByteArray)) (joinA (⟨#[44]⟩ : ByteArray) (rows.map rowT'), true) := by
    simp only [strings_CutPrefix.f]
    rw [P.1, P.2]
    exact ev_some rfl
  have rsz : ∀ x ∈ rows.map rowT', x.size ≤ 200 := fun x hx => by
    obtain ⟨r, hr, rfl⟩ := List.mem_map.1 hx
    have := numT_sz r.f0
    have := hexT_sz r.f1
    have := kl r hr
    have e : (⟨#[58]⟩ : ByteArray).size = 1 := rfl
    unfold rowT'
    rw [ByteArray.size_append, ByteArray.size_append, e]
    omega
  have jsz := joinA_sz (by_ := (⟨#[44]⟩ : ByteArray)) rsz
  have e1 : (⟨#[44]⟩ : ByteArray).size = 1 := rfl
  rw [e1, List.length_map] at jsz
  have hm : rows.length * (1 + 200) ≤ 10 * 201 := Nat.mul_le_mul_right _ hlen.2
  have Sp : splitL (joinA (⟨#[44]⟩ : ByteArray) (rows.map rowT')) (⟨#[44]⟩ : ByteArray) = rows.map rowT' := by
    cases hr : rows with
    | nil => rw [hr] at hlen; simp at hlen
    | cons r rs =>
      rw [List.map_cons, splitL_inter (fun y hy => ?_) (joinA_inter 44 (rowT' r) (rs.map rowT')), List.map_cons, data_str, List.map_map]
      · congr 1
        have : (str ∘ fun s : ByteArray => s.data.toList) = id := by funext s; exact data_str s
        rw [this, List.map_id]
      · have : ∃ q ∈ rows, y = (rowT' q).data.toList := by
          rw [hr]
          rcases List.mem_cons.1 hy with rfl | hy
          · exact ⟨r, by simp, rfl⟩
          · obtain ⟨z, hz, rfl⟩ := List.mem_map.1 hy
            obtain ⟨q, hq, rfl⟩ := List.mem_map.1 hz
            exact ⟨q, by simp [hq], rfl⟩
        obtain ⟨q, hq, rfl⟩ := this
        rw [rowT_data]
        intro hm
        rcases List.mem_append.1 hm with hm | hm
        · have := numT_mem (nm q hq) 44 hm
          simp at this
        · rcases List.mem_cons.1 hm with hm | hm
          · exact absurd hm (by decide)
          · have := hexT_mem (h q hq).2 44 hm
            simp at this
  have S := strings_Split.ev (s := joinA (⟨#[44]⟩ : ByteArray) (rows.map rowT')) (sep := (⟨#[44]⟩ : ByteArray)) (by omega) (by decide)
  unfold splitT at S
  rw [Sp] at S
  have TT := impl_TableText.ev false (rows.map Row.cp) (by rw [List.length_map]; omega) (fun r hr => by
    obtain ⟨x, hx, rfl⟩ := List.mem_map.1 hr
    exact h x hx)
  rw [tabT_cp.1] at TT
  refine ev_step ?_
  simp only [impl_TextTable.f, impl_TextTable.b]
  refine Ev.bind Pe (ev_neg (by simp) (Ev.bind S ?_))
  simp only [List.length_map]
  have key : ∀ (d n : Nat) (z : Bool), n + d = rows.length → (n = 0 ∨ z = false) → Ev (fun k => impl_TextTable.l0 k (tableT rows) false ((rows.map rowT').map T.str) (rows.length : Int) (n : Int) z (((rows.take n).map Row.cp).map Row.t)) (false, (rows.map Row.cp).map Row.t, true) := by
    intro d
    induction d with
    | zero =>
      intro n z hn hz
      have hz : z = false := by
        rcases hz with h | h
        · omega
        · exact h
      subst hz
      refine ev_step ?_
      simp only [impl_TextTable.l0, impl_TextTable.l0b]
      rw [List.take_of_length_le (by omega)]
      exact ev_neg (by omega) (Ev.bind TT (ev_neg (by simp) (ev_some rfl)))
    | succ d ih =>
      intro n z hn hz
      have hlt : n < rows.length := by omega
      have hlt2 : n < (rows.map rowT').length := by rw [List.length_map]; exact hlt
      have hmem := List.getElem_mem hlt
      have i2 := ih (n + 1) false (by omega) (.inr rfl)
      rw [List.take_succ_eq_append_getElem hlt, List.map_append, List.map_append] at i2
      have cq := cut_app (c := 58) (s := rowT' rows[n]) (x := (numT rows[n].f0).data.toList) (r := (hexT rows[n].f1).data.toList) (fun hm => by
        have := numT_mem (nm _ hmem) 58 hm
        simp at this) (rowT_data _)
      rw [data_str, data_str] at cq
      have C : Ev (fun k => strings_Cut.f k (rowT' rows[n]) (⟨#[58]⟩ : ByteArray)) (numT rows[n].f0, hexT rows[n].f1, cutB (rowT' rows[n]) (⟨#[58]⟩ : ByteArray)) := by
        simp only [strings_Cut.f]
        rw [cq.1, cq.2]
        refine ev_pos (decide_eq_true ?_) (ev_some rfl)
        have := rsz _ (List.getElem_mem hlt2)
        rw [List.getElem_map] at this
        omega
      refine ev_step ?_
      simp only [impl_TextTable.l0, impl_TextTable.l0b, Int.toNat_natCast, strA_at hlt2, List.getElem_map, succ_nat n (by omega), List.length_map]
      refine ev_pos (by omega) (ev_pos (by omega) (ev_pos (by omega) (Ev.bind C (Ev.bind (impl_TextNum.ev (nm _ hmem)) (Ev.bind (impl_TextHex.ev (h _ hmem)) (ev_pos ?_ i2))))))
      rw [List.length_take]
      omega
  have := key rows.length 0 true (by omega) (.inl rfl)
  simpa using this
theorem same_cp (rows : List Row) : tableSame (rows.map Row.cp) rows = true := by
  unfold tableSame
  rw [List.length_map, decide_eq_true rfl, Bool.true_and]
  refine (allFrom_iff _ _ _).2 fun j _ hj => ?_
  have hlt : j < rows.length := by omega
  have e1 : (rows.map Row.cp).getD j default = (rows[j]).cp := by simp [List.getD_eq_getElem?_getD, hlt]
  have e2 : rows.getD j default = rows[j] := by simp [List.getD_eq_getElem?_getD, hlt]
  rw [e1, e2]
  unfold rowSame Row.cp
  simp [sameB_refl]
theorem laws_FnTexts.top (x0 : By) (g0 : x0.good) : Ev (fun k => laws_FnTexts.f k x0.z x0.l) true := by
  refine ev_step ?_
  simp only [laws_FnTexts.f, laws_FnTexts.b]
  refine ev_ite (fun _ => ev_some rfl) (fun c => ?_)
  have hl : x0.l.length ≤ 1048576 := by omega
  obtain ⟨n, tx, txs, hd, y, rows, eT, hn, h1, h2, h3, hr, dr⟩ := spec_MakeTable.ex x0.z x0.l hl
  have TT := drawn_ok dr (by omega) (by omega)
  have R := drawn_rows dr (by omega)
  have L : limitsOk (n : Int) tx txs 4000 hd = true := by
    unfold limitsOk
    exact decide_eq_true ⟨by omega, h1, h2, by omega, h3⟩
  have nb : ∀ r ∈ rows, niceB r.f1 := fun r hr => ⟨by have := (dr r hr).2.1; omega, (dr r hr).2.2⟩
  have A := impl_LimitsText.ev L
  have B := impl_TextLimits.ev L
  have C := impl_TableText.ev y rows (by omega) nb
  have D := impl_TextTable.ev TT nb
  have S := impl_TableSame.ev false y (rows.map Row.cp) rows (by rw [List.length_map]; omega)
  rw [same_cp] at S
  have O := impl_LimitsOk.ev (n : Int) tx txs 4000 hd
  rw [L] at O
  have K := impl_TableOk.ev y rows (by omega)
  rw [TT] at K
  exact Ev.bind eT (Ev.bind A (Ev.bind B (Ev.bind C (Ev.bind D (ev_pos rfl (ev_pos (by simp) (ev_pos rfl (Ev.bind S (ev_pos rfl (Ev.bind O (ev_pos rfl (Ev.bind K (ev_some rfl)))))))))))))
end Go.Proofs.YthocpcfjfgnkgaaDoorG
