/- What the printed forms answer, over numbers and lists alone. Each lemma names its conditions. -/
import Derived.Test.YthocpcfjfgnkgaaGFnExactViewsb
import Derived.Lib.SlicesCompact
namespace Go.Proofs.YthocpcfjfgnkgaaG
open Go Go.Proofs.YthocpcfjfgnkgaaRv Go.RowKit
set_option linter.unusedVariables false
set_option linter.unusedSimpArgs false




structure Row where
  f0 : Int
  z : Bool
  f1 : List Int
instance : Inhabited Row := ⟨⟨0, false, []⟩⟩
def Row.t (r : Row) : T := .agg [.int .i64 r.f0, .nums 5 .u8 r.z r.f1]
theorem Row.c1 (r : Row) : (r.t.cells.getD 1 .bad).toNums = r.f1 := rfl

end Go.Proofs.YthocpcfjfgnkgaaG
namespace Go.Proofs.YthocpcfjfgnkgaaG
open Go Go.Proofs.YthocpcfjfgnkgaaRv Go.RowKit
set_option linter.unusedVariables false
set_option linter.unusedSimpArgs false


theorem rdI_nat {l : List Int} {n : Nat} (h : n < l.length) : rdI l (n : Int) = l[n] := by simp [rdI, h]
def bytesOk (b : List Int) : Prop := ∀ x ∈ b, 0 ≤ x ∧ x < 256

end Go.Proofs.YthocpcfjfgnkgaaG
namespace Go.Proofs.YthocpcfjfgnkgaaG
open Go Go.Proofs.YthocpcfjfgnkgaaRv Go.RowKit
set_option linter.unusedVariables false
set_option linter.unusedSimpArgs false

section
variable (y0 y1 y2 : Bool) (h b : List Int)



end
end Go.Proofs.YthocpcfjfgnkgaaG
namespace Go.Proofs.YthocpcfjfgnkgaaG
open Go Go.Proofs.YthocpcfjfgnkgaaRv Go.RowKit
set_option linter.unusedVariables false
set_option linter.unusedSimpArgs false


section
variable (z : Bool) (l : List Int)
end


theorem succ_nat (i : Nat) (h : i ≤ 1000000000) : wrap64 ((i : Int) + 1) = ((i + 1 : Nat) : Int) := by unfold wrap64; omega

end Go.Proofs.YthocpcfjfgnkgaaG
namespace Go.Proofs.YthocpcfjfgnkgaaG
open Go Go.Proofs.YthocpcfjfgnkgaaRv Go.RowKit
set_option linter.unusedVariables false
set_option linter.unusedSimpArgs false


def Row.ok (r : Row) : Prop := r.f1.length ≤ 1048576 ∧ bytesOk r.f1
def Rows (l : List Row) : Prop := l.length ≤ 1048576 ∧ ∀ r ∈ l, r.ok
theorem laws_szByteS.ev (z : Bool) (l : List Int) (h : l.length ≤ 9223372036854775807) (a : Int) (h0 : 0 ≤ a) (h1 : a ≤ 1048576) : ∃ r, Ev (fun k => laws_szByteS.f k z l a) r ∧ SzR (okB l) a r := by
  have e : wrap64 (a - (l.length : Int)) = a - (l.length : Int) := w64 (by omega) (by omega)
  by_cases c : (l.length : Int) ≤ a
  · refine ⟨a - l.length, ev_step ?_, Or.inr ⟨by omega, by omega, by unfold okB; omega⟩⟩
    simp only [laws_szByteS.f, laws_szByteS.b, e]
    clear e
    exact ev_neg (by omega) (ev_some rfl)
  · refine ⟨-1, ev_step ?_, Or.inl rfl⟩
    simp only [laws_szByteS.f, laws_szByteS.b, e]
    clear e
    exact ev_pos (by omega) (ev_some rfl)
theorem laws_toByteS.ev (z : Bool) (l : List Int) (h : okB l) : Ev (fun k => laws_toByteS.f k z l) (false, l) := by
  have hl : l.length ≤ 1048576 := h
  refine ev_step ?_
  simp only [laws_toByteS.f, laws_toByteS.b]
  refine ev_pos trivial (ev_pos (by omega) (ev_pos (by omega) ?_))
  have key : ∀ (d n : Nat) (ys : List Int), n + d = l.length → ys.length = l.length → ys.take n = l.take n → Ev (fun k => laws_toByteS.l0 k z l ys (n : Int)) (false, l) := by
    intro d
    induction d with
    | zero =>
      intro n ys hn hy ht
      refine ev_step ?_
      simp only [laws_toByteS.l0, laws_toByteS.l0b]
      refine ev_neg (by omega) (ev_some ?_)
      obtain rfl : n = l.length := by omega
      rw [List.take_length, ← hy, List.take_length] at ht
      rw [ht]
    | succ d ih =>
      intro n ys hn hy ht
      have hlt : n < l.length := by omega
      refine ev_step ?_
      have i2 := ih (n + 1) (ys.set n l[n]) (by omega) (by simp [hy]) (by
        rw [List.take_succ_eq_append_getElem (by simp; omega), List.take_succ_eq_append_getElem hlt, List.take_set_of_le (Nat.le_refl n), ht, List.getElem_set_self])
      simp only [laws_toByteS.l0, laws_toByteS.l0b, rdI_nat hlt, succ_nat n (by omega), Int.toNat_natCast]
      exact ev_pos (by omega) (ev_pos (by omega) (ev_pos (by omega) (ev_pos (by omega) (ev_pos (by omega) i2))))
  exact key l.length 0 _ (by omega) (by simp) (by simp)
def Row.cp (r : Row) : Row := ⟨r.f0, false, r.f1⟩

theorem laws_eqByteS.ev (y z : Bool) (l : List Int) (h : okB l) : Ev (fun k => laws_eqByteS.f k y l z l) true := by
  have hl : l.length ≤ 1048576 := h
  refine ev_step ?_
  simp only [laws_eqByteS.f, laws_eqByteS.b]
  refine ev_neg (by simp) ?_
  have key : ∀ (d n : Nat), n + d = l.length → Ev (fun k => laws_eqByteS.l0 k y l z l (n : Int)) true := by
    intro d
    induction d with
    | zero =>
      intro n hn
      refine ev_step ?_
      simp only [laws_eqByteS.l0, laws_eqByteS.l0b]
      exact ev_neg (by omega) (ev_some rfl)
    | succ d ih =>
      intro n hn
      refine ev_step ?_
      simp only [laws_eqByteS.l0, laws_eqByteS.l0b, succ_nat n (by omega)]
      exact ev_pos (by omega) (ev_pos (by omega) (ev_pos (by omega) (ev_pos (by omega) (ev_pos (by omega) (ev_neg (by simp) (ih (n + 1) (by omega)))))))
  exact key l.length 0 (by omega)

end Go.Proofs.YthocpcfjfgnkgaaG
namespace Go.Proofs.YthocpcfjfgnkgaaG
open Go Go.Proofs.YthocpcfjfgnkgaaRv Go.RowKit
set_option linter.unusedVariables false
set_option linter.unusedSimpArgs false

theorem laws_szVote.ev (a b : Int) (x : Bool) (l : List Int) (hl : l.length ≤ 9223372036854775807) (w : Int) (y : Bool) (t : List Int) (ht : t.length ≤ 9223372036854775807) (c : Int) (h0 : 0 ≤ c) (h1 : c ≤ 1048576) : ∃ q, Ev (fun k => laws_szVote.f k a b x l w y t c) q ∧ SzR (okB l ∧ okB t) c q := by
  obtain ⟨q, e, s⟩ := laws_szByteS.ev x l hl c h0 h1
  rcases s with rfl | ⟨s1, s2, s3⟩
  · refine ⟨-1, ev_step ?_, Or.inl rfl⟩
    simp only [laws_szVote.f, laws_szVote.b]
    exact Ev.bind e (ev_pos (by omega) (ev_some rfl))
  obtain ⟨p, e2, s⟩ := laws_szByteS.ev y t ht q s1 (by omega)
  rcases s with rfl | ⟨t1, t2, t3⟩
  · refine ⟨-1, ev_step ?_, Or.inl rfl⟩
    simp only [laws_szVote.f, laws_szVote.b]
    exact Ev.bind e (ev_neg (by omega) (Ev.bind e2 (ev_pos (by omega) (ev_some rfl))))
  · refine ⟨p, ev_step ?_, Or.inr ⟨t1, by omega, s3, t3⟩⟩
    simp only [laws_szVote.f, laws_szVote.b]
    exact Ev.bind e (ev_neg (by omega) (Ev.bind e2 (ev_neg (by omega) (ev_some rfl))))
theorem laws_toVote.ev (a b : Int) (x : Bool) (l : List Int) (hl : okB l) (w : Int) (y : Bool) (t : List Int) (ht : okB t) : Ev (fun k => laws_toVote.f k a b x l w y t) (a, b, false, l, w, false, t) := by
  refine ev_step ?_
  simp only [laws_toVote.f, laws_toVote.b]
  exact Ev.bind (laws_toByteS.ev x l hl) (Ev.bind (laws_toByteS.ev y t ht) (ev_some rfl))
theorem laws_eqVote.ev (a b : Int) (x : Bool) (l : List Int) (hl : okB l) (w : Int) (y : Bool) (t : List Int) (ht : okB t) (x' y' : Bool) : Ev (fun k => laws_eqVote.f k a b x l w y t a b x' l w y' t) true := by
  refine ev_step ?_
  simp only [laws_eqVote.f, laws_eqVote.b]
  exact ev_neg (by simp) (ev_neg (by simp) (Ev.bind (laws_eqByteS.ev _ _ l hl) (ev_neg (by simp) (ev_neg (by simp) (Ev.bind (laws_eqByteS.ev _ _ t ht) (ev_neg (by simp) (ev_some rfl)))))))
end Go.Proofs.YthocpcfjfgnkgaaG
namespace Go.Proofs.YthocpcfjfgnkgaaG
open Go Go.Proofs.YthocpcfjfgnkgaaRv Go.RowKit
set_option linter.unusedVariables false
set_option linter.unusedSimpArgs false

structure By where
  z : Bool
  l : List Int
instance : Inhabited By := ⟨⟨false, []⟩⟩
def By.t (b : By) : T := .nums 5 .u8 b.z b.l
def By.cp (b : By) : By := ⟨false, b.l⟩
structure QcV where
  v : Int
  h : Int
  bz : Bool
  blk : List Int
  mz : Bool
  bits : List Int
  tz : Bool
  tags : List By
structure Head where
  v : Int
  h : Int
  p : Int
  az : Bool
  par : List Int
  rz : Bool
  root : List Int
  q : QcV
instance : Inhabited Head := ⟨⟨0, 0, 0, false, [], false, [], ⟨0, 0, false, [], false, [], false, []⟩⟩⟩
def Head.t (x : Head) : T := .agg [.int .i64 x.v, .int .i64 x.h, .int .i64 x.p, .nums 5 .u8 x.az x.par, .nums 5 .u8 x.rz x.root, .int .i64 x.q.v, .int .i64 x.q.h, .nums 5 .u8 x.q.bz x.q.blk, .nums 5 .u8 x.q.mz x.q.bits, .sl 22 x.q.tz (x.q.tags.map By.t)]
section
variable (x : Head)
theorem Head.c1 : (x.t.cells.getD 1 .bad).toInt = x.h := rfl
theorem Head.c2 : (x.t.cells.getD 2 .bad).toInt = x.p := rfl
end
def QcV.cp (q : QcV) : QcV := ⟨q.v, q.h, false, q.blk, false, q.bits, false, q.tags.map By.cp⟩
def Head.cp (x : Head) : Head := ⟨x.v, x.h, x.p, false, x.par, false, x.root, x.q.cp⟩
end Go.Proofs.YthocpcfjfgnkgaaG
namespace Go.Proofs.YthocpcfjfgnkgaaG
open Go Go.Proofs.YthocpcfjfgnkgaaRv Go.RowKit
set_option linter.unusedVariables false
set_option linter.unusedSimpArgs false

structure Light where
  l0 : Int
  l1 : Int
  l2 : Int
  l3 : Int
  l4 : Int
  rz : Bool
  rows : List Row
  skip : Int
  bz : Bool
  buf : List Int
  cz : Bool
  chain : List Head
def Light.cp (x : Light) : Light := ⟨x.l0, x.l1, x.l2, x.l3, x.l4, false, x.rows.map Row.cp, x.skip, false, x.buf, false, x.chain.map Head.cp⟩
end Go.Proofs.YthocpcfjfgnkgaaG
namespace Go.Proofs.YthocpcfjfgnkgaaG
open Go Go.Proofs.YthocpcfjfgnkgaaRv Go.RowKit
set_option linter.unusedVariables false
set_option linter.unusedSimpArgs false


def okM (a : Int) : Prop := 0 ≤ a ∧ a ≤ 4611686018427387904
theorem wmk (a : Int) (h : okM a) (n : Nat) (hn : n ≤ 1099511627776) : wrap64 (a + (n : Int) + 1) = a + ((n + 1 : Nat) : Int) := by
  obtain ⟨h0, h1⟩ := h
  unfold wrap64; omega
theorem laws_markByteS.ev (z : Bool) (l : List Int) (h : okB l) (a : Int) (ha : okM a) : Ev (fun k => laws_markByteS.f k z l a) (a + l.length, z, mk8 l.length a) := by
  have hl : l.length ≤ 1048576 := h
  refine ev_step ?_
  simp only [laws_markByteS.f, laws_markByteS.b]
  have key : ∀ (d n : Nat) (ys : List Int), n + d = l.length → ys.length = l.length → ys.take n = (mk8 l.length a).take n → Ev (fun k => laws_markByteS.l0 k z ys (a + (n : Int)) (n : Int)) (a + l.length, z, mk8 l.length a) := by
    intro d
    induction d with
    | zero =>
      intro n ys hn hy ht
      refine ev_step ?_
      simp only [laws_markByteS.l0, laws_markByteS.l0b]
      refine ev_neg (by omega) (ev_some ?_)
      obtain rfl : n = l.length := by omega
      have e1 : (mk8 l.length a).take l.length = mk8 l.length a := List.take_of_length_le (by rw [mk8_length]; omega)
      rw [← hy, List.take_length, hy, e1] at ht
      rw [ht]
    | succ d ih =>
      intro n ys hn hy ht
      have hlt : n < l.length := by omega
      have hm : n < (mk8 l.length a).length := by rw [mk8_length]; exact hlt
      have i2 := ih (n + 1) (ys.set n ((a + (n : Int)) % 256)) (by omega) (by simp [hy]) (by
        rw [List.take_succ_eq_append_getElem (by simp; omega), List.take_succ_eq_append_getElem hm, List.take_set_of_le (Nat.le_refl n), ht, List.getElem_set_self]
        simp [mk8])
      refine ev_step ?_
      simp only [laws_markByteS.l0, laws_markByteS.l0b, Int.toNat_natCast, succ_nat n (by omega), wmk a ha n (by omega)]
      exact ev_pos (by omega) (ev_pos (by omega) (ev_pos (by omega) i2))
  have := key l.length 0 l (by omega) rfl (by simp)
  simpa using this

def CntR {α : Type} (a : Int) (m : Nat) (g : Nat → Option (Int × α)) : Prop := ∃ p, Ev g p ∧ a ≤ p.1 ∧ p.1 ≤ a + m
theorem getD_self {α : Type} {l : List α} {n : Nat} {d v : α} (h : n < l.length) : (l.set n v).getD n d = v := by simp [List.getD_eq_getElem?_getD, h]
theorem drop_set_lt {α : Type} {l : List α} {n m : Nat} {v : α} (h : n < m) : (l.set n v).drop m = l.drop m := List.drop_set_of_lt h
theorem getD_of_drop {α β : Type} {f : α → β} {ys : List β} {l : List α} {n : Nat} {d : β} (h : ys.drop n = (l.map f).drop n) (hn : n < l.length) : ys.getD n d = f l[n] := by
  have := congrArg (fun q => q[0]?) h
  simp only [List.getElem?_drop, Nat.add_zero] at this
  rw [List.getD_eq_getElem?_getD, this]
  simp [hn]


end Go.Proofs.YthocpcfjfgnkgaaG
namespace Go.Proofs.YthocpcfjfgnkgaaG
open Go Go.Proofs.YthocpcfjfgnkgaaRv Go.RowKit
set_option linter.unusedVariables false
set_option linter.unusedSimpArgs false

structure Sl (α : Type) where
  z : Bool
  l : List α
def goodI (n : Int) : Prop := (Lit.int .i64 n).wf = true
def By.good (b : By) : Prop := b.l.length ≤ 9223372036854775807 ∧ ∀ n ∈ b.l, (Lit.int .u8 n).wf = true
def GoodL {α : Type} (g : α → Prop) (l : List α) : Prop := l.length ≤ 9223372036854775807 ∧ ∀ x ∈ l, g x
structure Vt where
  v : Int
  h : Int
  bz : Bool
  blk : List Int
  who : Int
  tz : Bool
  tag : List Int
instance : Inhabited Vt := ⟨⟨0, 0, false, [], 0, false, []⟩⟩
def Vt.t (x : Vt) : T := .agg [.int .i64 x.v, .int .i64 x.h, .nums 5 .u8 x.bz x.blk, .int .i64 x.who, .nums 5 .u8 x.tz x.tag]
theorem vt_at {l : List Vt} {i : Nat} (h : i < l.length) : (l.map Vt.t).getD i .bad = (l[i]).t := by simp [List.getD_eq_getElem?_getD, h]
theorem Vt.c0 (x : Vt) : (x.t.cells.getD 0 .bad).toInt = x.v := rfl
theorem Vt.c1 (x : Vt) : (x.t.cells.getD 1 .bad).toInt = x.h := rfl
theorem Vt.c2z (x : Vt) : (x.t.cells.getD 2 .bad).isNil = x.bz := rfl
theorem Vt.c2 (x : Vt) : (x.t.cells.getD 2 .bad).toNums = x.blk := rfl
theorem Vt.c3 (x : Vt) : (x.t.cells.getD 3 .bad).toInt = x.who := rfl
theorem Vt.c4z (x : Vt) : (x.t.cells.getD 4 .bad).isNil = x.tz := rfl
theorem Vt.c4 (x : Vt) : (x.t.cells.getD 4 .bad).toNums = x.tag := rfl
def Vt.good (x : Vt) : Prop := goodI x.v ∧ goodI x.h ∧ By.good ⟨x.bz, x.blk⟩ ∧ goodI x.who ∧ By.good ⟨x.tz, x.tag⟩
def Vt.cp (x : Vt) : Vt := ⟨x.v, x.h, false, x.blk, x.who, false, x.tag⟩
structure En where
  who : Int
  high : Int
  tz : Bool
  tag : List Int
instance : Inhabited En := ⟨⟨0, 0, false, []⟩⟩
def En.t (x : En) : T := .agg [.int .i64 x.who, .int .i64 x.high, .nums 5 .u8 x.tz x.tag]
theorem En.c1 (x : En) : (x.t.cells.getD 1 .bad).toInt = x.high := rfl
theorem En.c2 (x : En) : (x.t.cells.getD 2 .bad).toNums = x.tag := rfl
def En.cp (x : En) : En := ⟨x.who, x.high, false, x.tag⟩

structure Lm where
  l0 : Int
  l1 : Int
  l2 : Int
  l3 : Int
  l4 : Int
structure TcV where
  v : Int
  ez : Bool
  ents : List En
structure Ps where
  skip : Int
  z : Bool
  buf : List Int
structure Fo where
  l0 : Int
  l1 : Int
  l2 : Int
  l3 : Int
  l4 : Int
  hz : Bool
  heads : List Head
structure Pf where
  hz : Bool
  heads : List Head
  q : QcV
end Go.Proofs.YthocpcfjfgnkgaaG
namespace Go.Proofs.YthocpcfjfgnkgaaG
open Go Go.Proofs.YthocpcfjfgnkgaaRv Go.RowKit
set_option linter.unusedVariables false
set_option linter.unusedSimpArgs false

end Go.Proofs.YthocpcfjfgnkgaaG
namespace Go.Proofs.YthocpcfjfgnkgaaG
open Go Go.Proofs.YthocpcfjfgnkgaaRv Go.RowKit
set_option linter.unusedVariables false
set_option linter.unusedSimpArgs false

end Go.Proofs.YthocpcfjfgnkgaaG
namespace Go.Proofs.YthocpcfjfgnkgaaG
open Go Go.Proofs.YthocpcfjfgnkgaaRv Go.RowKit
set_option linter.unusedVariables false
set_option linter.unusedSimpArgs false

end Go.Proofs.YthocpcfjfgnkgaaG
namespace Go.Proofs.YthocpcfjfgnkgaaG
open Go Go.Proofs.YthocpcfjfgnkgaaRv Go.RowKit
set_option linter.unusedVariables false
set_option linter.unusedSimpArgs false

end Go.Proofs.YthocpcfjfgnkgaaG
namespace Go.Proofs.YthocpcfjfgnkgaaG
open Go Go.Proofs.YthocpcfjfgnkgaaRv Go.RowKit
set_option linter.unusedVariables false
set_option linter.unusedSimpArgs false


def cnt {α : Type} (w : α → Nat) (l : List α) : Nat := (l.map w).sum
def byW (b : By) : Nat := b.l.length
def QcV.w (q : QcV) : Nat := q.blk.length + q.bits.length + cnt byW q.tags

theorem set_set {α : Type} (l : List α) (n : Nat) (x y : α) : (l.set n x).set n y = l.set n y := List.set_set ..
end Go.Proofs.YthocpcfjfgnkgaaG
namespace Go.Proofs.YthocpcfjfgnkgaaG
open Go Go.Proofs.YthocpcfjfgnkgaaRv Go.RowKit
set_option linter.unusedVariables false
set_option linter.unusedSimpArgs false

def FitV (l : List Vt) : Prop := l.length ≤ 9223372036854775807 ∧ ∀ r ∈ l, (r.blk.length ≤ 9223372036854775807 ∧ r.tag.length ≤ 9223372036854775807)
def FewV (l : List Vt) : Prop := l.length ≤ 1048576 ∧ ∀ r ∈ l, (okB r.blk ∧ okB r.tag)
theorem fewV_cp {l : List Vt} (h : FewV l) : FewV (l.map Vt.cp) := ⟨by simpa using h.1, fun x hx => by
  obtain ⟨q, hq, rfl⟩ := List.mem_map.1 hx
  exact h.2 q hq⟩
theorem fitV_of {l : List Vt} (h : GoodL Vt.good l) : FitV l := ⟨h.1, fun x hx => ⟨(h.2 x hx).2.2.1.1, (h.2 x hx).2.2.2.2.1⟩⟩
theorem laws_szVoteS.ev0 (z : Bool) (l : List Vt) (hl : l.length ≤ 1048576) (h : ∀ r ∈ l, (r.blk.length ≤ 9223372036854775807 ∧ r.tag.length ≤ 9223372036854775807)) : ∀ (d n : Nat) (a : Int), n + d = l.length → 0 ≤ a → a ≤ 1048576 → ∃ q, Ev (fun k => laws_szVoteS.l0 k z (l.map Vt.t) a (n : Int)) q ∧ SzR (∀ r ∈ l.drop n, (okB r.blk ∧ okB r.tag)) a q
  | 0, n, a, hn, h0, h1 => by
    refine ⟨a, ev_step ?_, Or.inr ⟨h0, by omega, fun r hr => ?_⟩⟩
    · simp only [laws_szVoteS.l0, laws_szVoteS.l0b, List.length_map]
      exact ev_neg (by omega) (ev_some rfl)
    · rw [List.drop_of_length_le (by omega)] at hr; cases hr
  | d + 1, n, a, hn, h0, h1 => by
    have hlt : n < l.length := by omega
    obtain ⟨q, e, s⟩ := laws_szVote.ev l[n].v l[n].h l[n].bz l[n].blk (h _ (List.getElem_mem hlt)).1 l[n].who l[n].tz l[n].tag (h _ (List.getElem_mem hlt)).2 a h0 h1
    rcases s with rfl | ⟨s1, s2, s3⟩
    · refine ⟨-1, ev_step ?_, Or.inl rfl⟩
      simp only [laws_szVoteS.l0, laws_szVoteS.l0b, List.length_map, Int.toNat_natCast, vt_at hlt, Vt.c0, Vt.c1, Vt.c2, Vt.c2z, Vt.c3, Vt.c4, Vt.c4z]
      exact ev_pos (by omega) (ev_pos (by omega) (ev_pos (by omega) (Ev.bind e (ev_pos (by omega) (ev_some rfl)))))
    · obtain ⟨p, e2, s'⟩ := laws_szVoteS.ev0 z l hl h d (n + 1) q (by omega) s1 (by omega)
      refine ⟨p, ev_step ?_, ?_⟩
      · simp only [laws_szVoteS.l0, laws_szVoteS.l0b, List.length_map, Int.toNat_natCast, vt_at hlt, Vt.c0, Vt.c1, Vt.c2, Vt.c2z, Vt.c3, Vt.c4, Vt.c4z, succ_nat n (by omega)]
        exact ev_pos (by omega) (ev_pos (by omega) (ev_pos (by omega) (Ev.bind e (ev_neg (by omega) e2))))
      · rcases s' with rfl | ⟨t1, t2, t3⟩
        · exact Or.inl rfl
        · refine Or.inr ⟨t1, by omega, fun r hr => ?_⟩
          rw [List.drop_eq_getElem_cons hlt] at hr
          rcases List.mem_cons.1 hr with rfl | hr
          · exact s3
          · exact t3 r hr
theorem laws_szVoteS.ev (z : Bool) (l : List Vt) (h : FitV l) (a : Int) (h0 : 0 ≤ a) (h1 : a ≤ 1048576) : ∃ q, Ev (fun k => laws_szVoteS.f k z (l.map Vt.t) a) q ∧ SzR (FewV l) a q := by
  have hl := h.1
  have e : wrap64 (a - (l.length : Int)) = a - (l.length : Int) := w64 (by omega) (by omega)
  by_cases c : (l.length : Int) ≤ a
  · obtain ⟨q, e2, s⟩ := laws_szVoteS.ev0 z l (by clear e; omega) h.2 l.length 0 (a - l.length) (by omega) (by clear e; omega) (by clear e; omega)
    refine ⟨q, ev_step ?_, ?_⟩
    · simp only [laws_szVoteS.f, laws_szVoteS.b, List.length_map, e]
      clear e
      exact ev_neg (by omega) e2
    · clear e
      rcases s with rfl | ⟨t1, t2, t3⟩
      · exact Or.inl rfl
      · exact Or.inr ⟨t1, by omega, by omega, t3⟩
  · refine ⟨-1, ev_step ?_, Or.inl rfl⟩
    simp only [laws_szVoteS.f, laws_szVoteS.b, List.length_map, e]
    clear e
    exact ev_pos (by omega) (ev_some rfl)
theorem laws_toVoteS.ev (z : Bool) (l : List Vt) (h : FewV l) : Ev (fun k => laws_toVoteS.f k z (l.map Vt.t)) (false, (l.map Vt.cp).map Vt.t) := by
  have hl : l.length ≤ 1048576 := h.1
  refine ev_step ?_
  simp only [laws_toVoteS.f, laws_toVoteS.b, List.length_map]
  refine ev_pos trivial (ev_pos (by omega) (ev_pos (by omega) ?_))
  have key : ∀ (d n : Nat) (ys : List T), n + d = l.length → ys.length = l.length → ys.take n = ((l.map Vt.cp).map Vt.t).take n → Ev (fun k => laws_toVoteS.l0 k z (l.map Vt.t) ys (n : Int)) (false, (l.map Vt.cp).map Vt.t) := by
    intro d
    induction d with
    | zero =>
      intro n ys hn hy ht
      refine ev_step ?_
      simp only [laws_toVoteS.l0, laws_toVoteS.l0b, List.length_map]
      refine ev_neg (by omega) (ev_some ?_)
      rw [List.take_of_length_le (by omega), List.take_of_length_le (by simp; omega)] at ht
      rw [ht]
    | succ d ih =>
      intro n ys hn hy ht
      have hlt : n < l.length := by omega
      refine ev_step ?_
      have i2 := ih (n + 1) (ys.set n (l[n].cp).t) (by omega) (by simp [hy]) (by
        rw [List.take_succ_eq_append_getElem (by simp; omega), List.take_succ_eq_append_getElem (by simp; omega), List.take_set_of_le (Nat.le_refl n), ht, List.getElem_set_self]
        simp)
      simp only [laws_toVoteS.l0, laws_toVoteS.l0b, List.length_map, succ_nat n (by omega), Int.toNat_natCast, vt_at hlt, Vt.c0, Vt.c1, Vt.c2, Vt.c2z, Vt.c3, Vt.c4, Vt.c4z]
      exact ev_pos (by omega) (ev_pos (by omega) (ev_pos (by omega) (Ev.bind (laws_toVote.ev l[n].v l[n].h l[n].bz l[n].blk (h.2 _ (List.getElem_mem hlt)).1 l[n].who l[n].tz l[n].tag (h.2 _ (List.getElem_mem hlt)).2) (ev_pos (by omega) (ev_pos (by omega) i2)))))
  exact key l.length 0 _ (by omega) (by simp) (by simp)
theorem laws_eqVoteS.ev (y z : Bool) (l : List Vt) (h : FewV l) : Ev (fun k => laws_eqVoteS.f k y (l.map Vt.t) z (l.map Vt.t)) true := by
  have hl : l.length ≤ 1048576 := h.1
  refine ev_step ?_
  simp only [laws_eqVoteS.f, laws_eqVoteS.b]
  refine ev_neg (by simp) ?_
  have key : ∀ (d n : Nat), n + d = l.length → Ev (fun k => laws_eqVoteS.l0 k y (l.map Vt.t) z (l.map Vt.t) (n : Int)) true := by
    intro d
    induction d with
    | zero =>
      intro n hn
      refine ev_step ?_
      simp only [laws_eqVoteS.l0, laws_eqVoteS.l0b, List.length_map]
      exact ev_neg (by omega) (ev_some rfl)
    | succ d ih =>
      intro n hn
      have hlt : n < l.length := by omega
      refine ev_step ?_
      simp only [laws_eqVoteS.l0, laws_eqVoteS.l0b, List.length_map, Int.toNat_natCast, vt_at hlt, Vt.c0, Vt.c1, Vt.c2, Vt.c2z, Vt.c3, Vt.c4, Vt.c4z, succ_nat n (by omega)]
      exact ev_pos (by omega) (ev_pos (by omega) (ev_pos (by omega) (ev_pos (by omega) (ev_pos (by omega) (Ev.bind (laws_eqVote.ev l[n].v l[n].h l[n].bz l[n].blk (h.2 _ (List.getElem_mem hlt)).1 l[n].who l[n].tz l[n].tag (h.2 _ (List.getElem_mem hlt)).2 l[n].bz l[n].tz) (ev_neg (by simp) (ih (n + 1) (by omega))))))))
  exact key l.length 0 (by omega)
end Go.Proofs.YthocpcfjfgnkgaaG
namespace Go.Proofs.YthocpcfjfgnkgaaG
open Go Go.Proofs.YthocpcfjfgnkgaaRv Go.RowKit
set_option linter.unusedVariables false
set_option linter.unusedSimpArgs false

theorem laws_markVoteS.ev (z : Bool) (l : List Vt) (h : FewV l) (a : Int) (h0 : 0 ≤ a) (h1 : a ≤ 4398046511104) : CntR a 2199026401280 (fun k => laws_markVoteS.f k z (l.map Vt.t) a) := by
  have hl : l.length ≤ 1048576 := h.1
  have key : ∀ (d n : Nat) (ys : List T) (c : Int), n + d = l.length → ys.length = l.length → ys.drop n = (l.map Vt.t).drop n → a ≤ c → c ≤ a + ((n * 2097155 : Nat) : Int) → CntR c (d * 2097155) (fun k => laws_markVoteS.l0 k z ys c (n : Int)) := by
    intro d
    induction d with
    | zero =>
      intro n ys c hn hy ht hc hc2
      refine ⟨(c, z, ys), ev_step ?_, Int.le_refl _, by simp⟩
      simp only [laws_markVoteS.l0, laws_markVoteS.l0b]
      exact ev_neg (by omega) (ev_some rfl)
    | succ d ih =>
      intro n ys c hn hy ht hc hc2
      have hlt : n < l.length := by omega
      have hlt' : n < ys.length := by omega
      have hg := getD_of_drop (d := T.bad) ht hlt
      obtain ⟨hb, htg⟩ := h.2 _ (List.getElem_mem hlt)
      have hb' : (l[n]).blk.length ≤ 1048576 := hb
      have htg' : (l[n]).tag.length ≤ 1048576 := htg
      have w1 : wrap64 (c + 1) = c + 1 := w64 (by omega) (by omega)
      have w2 : wrap64 (c + 1 + 1) = c + 1 + 1 := w64 (by omega) (by omega)
      have w3 : wrap64 (c + 1 + 1 + ((l[n]).blk.length : Int) + 1) = c + 1 + 1 + ((l[n]).blk.length : Int) + 1 := w64 (by omega) (by omega)
      have M := laws_markByteS.ev (l[n]).bz (l[n]).blk hb (c + 1 + 1) ⟨by omega, by omega⟩
      have M2 := laws_markByteS.ev (l[n]).tz (l[n]).tag htg (c + 1 + 1 + ((l[n]).blk.length : Int) + 1) ⟨by omega, by omega⟩
      have ht' : ys.drop (n + 1) = (l.map Vt.t).drop (n + 1) := by
        have := congrArg (List.drop 1) ht
        simpa [List.drop_drop] using this
      have e1 : laws_markVoteS.y1 ys c (n : Int) = ys.set n (.agg [.int .i64 c, .int .i64 (l[n]).h, .nums 5 .u8 (l[n]).bz (l[n]).blk, .int .i64 (l[n]).who, .nums 5 .u8 (l[n]).tz (l[n]).tag]) := by
        simp only [laws_markVoteS.y1, Int.toNat_natCast, hg, Vt.c1, Vt.c2, Vt.c2z, Vt.c3, Vt.c4, Vt.c4z]
      have e2 : laws_markVoteS.y2 ys c (n : Int) = ys.set n (.agg [.int .i64 c, .int .i64 (c + 1), .nums 5 .u8 (l[n]).bz (l[n]).blk, .int .i64 (l[n]).who, .nums 5 .u8 (l[n]).tz (l[n]).tag]) := by
        simp only [laws_markVoteS.y2, e1, Int.toNat_natCast, set_set, getD_self hlt', w1]
        rfl
      have e3 : ∀ t : Int × Bool × List Int, laws_markVoteS.y3 ys c (n : Int) t = ys.set n (.agg [.int .i64 c, .int .i64 (c + 1), .nums 5 .u8 t.2.1 t.2.2, .int .i64 (l[n]).who, .nums 5 .u8 (l[n]).tz (l[n]).tag]) := fun t => by
        simp only [laws_markVoteS.y3, e2, Int.toNat_natCast, set_set, getD_self hlt']
        rfl
      have e4 : ∀ t : Int × Bool × List Int, laws_markVoteS.y4 ys c (n : Int) t = ys.set n (.agg [.int .i64 c, .int .i64 (c + 1), .nums 5 .u8 t.2.1 t.2.2, .int .i64 t.1, .nums 5 .u8 (l[n]).tz (l[n]).tag]) := fun t => by
        simp only [laws_markVoteS.y4, e3, Int.toNat_natCast, set_set, getD_self hlt']
        rfl
      obtain ⟨p, e, p1, p2⟩ := ih (n + 1) (ys.set n (.agg [.int .i64 c, .int .i64 (c + 1), .nums 5 .u8 (l[n]).bz (mk8 (l[n]).blk.length (c + 1 + 1)), .int .i64 (c + 1 + 1 + ((l[n]).blk.length : Int)), .nums 5 .u8 (l[n]).tz (mk8 (l[n]).tag.length (c + 1 + 1 + ((l[n]).blk.length : Int) + 1))])) (c + 1 + 1 + ((l[n]).blk.length : Int) + 1 + ((l[n]).tag.length : Int)) (by omega) (by simp [hy]) (by rw [drop_set_lt (by omega), ht']) (by omega) (by omega)
      refine ⟨p, ev_step ?_, by omega, by omega⟩
      simp only [laws_markVoteS.l0, laws_markVoteS.l0b, e2, e1, e3, e4, Int.toNat_natCast, succ_nat n (by omega), w1, w2, set_set, getD_self hlt', List.length_set]
      refine ev_pos (by omega) (ev_pos (by omega) (ev_pos (by omega) (ev_pos (by omega) (ev_pos (by omega) (ev_pos (by omega) (ev_pos (by omega) (Ev.bind M ?_)))))))
      simp only [w3]
      refine ev_pos (by omega) (ev_pos (by omega) (ev_pos (by omega) (ev_pos (by omega) (Ev.bind M2 ?_))))
      simp only [laws_markVoteS.y5, e4, Int.toNat_natCast, set_set, getD_self hlt']
      exact e
  obtain ⟨p, e, p1, p2⟩ := key l.length 0 (l.map Vt.t) a (by omega) (by simp) rfl (Int.le_refl _) (by omega)
  refine ⟨p, ev_step ?_, p1, ?_⟩
  · simp only [laws_markVoteS.f, laws_markVoteS.b]
    exact e
  · have : l.length * 2097155 ≤ 1048576 * 2097155 := Nat.mul_le_mul_right _ hl
    omega
end Go.Proofs.YthocpcfjfgnkgaaG
namespace Go.Proofs.YthocpcfjfgnkgaaG
open Go Go.Lib
set_option linter.unusedVariables false
set_option linter.unusedSimpArgs false

theorem bang_get {zs : List Int} {m : Nat} (h : m < zs.length) : zs.toArray[m]! = zs[m] := by
  rw [getElem!_pos _ m (by simpa using h)]
  simp
theorem compact_up {zs : List Int} (hs : zs.Pairwise (· ≤ ·)) : ∀ m, m ≤ zs.length → (compactUpTo zs.toArray m).Pairwise (· < ·) ∧ (∀ x, x ∈ compactUpTo zs.toArray m ↔ x ∈ zs.take m)
  | 0, _ => by simp [compactUpTo]
  | m + 1, h => by
    obtain ⟨h1, h2⟩ := compact_up hs m (by omega)
    have hm : m < zs.length := by omega
    have g := bang_get hm
    rw [compactUpTo_succ, List.take_succ_eq_append_getElem hm, g]
    have ord : ∀ x ∈ zs.take m, x ≤ zs[m] := fun x hx => by
      obtain ⟨i, hi, rfl⟩ := List.getElem_of_mem hx
      rw [List.length_take] at hi
      rw [List.getElem_take]
      exact List.pairwise_iff_getElem.1 hs i m (by omega) hm (by omega)
    cases q : keeps zs.toArray m with
    | true =>
      simp only [if_true]
      refine ⟨List.pairwise_append.2 ⟨h1, List.pairwise_singleton _ _, fun x hx y hy => ?_⟩, fun x => by rw [List.mem_append, List.mem_append, h2 x]⟩
      rw [List.mem_singleton.1 hy]
      have hx' := (h2 x).1 hx
      have le := ord x hx'
      by_cases m0 : m = 0
      · subst m0
        simp at hx'
      · have hm1 : m - 1 < zs.length := by omega
        have g1 := bang_get hm1
        have le1 : x ≤ zs[m - 1] := by
          obtain ⟨i, hi, rfl⟩ := List.getElem_of_mem hx'
          rw [List.length_take] at hi
          rw [List.getElem_take]
          by_cases e : i = m - 1
          · subst e; exact Int.le_refl _
          · exact List.pairwise_iff_getElem.1 hs i (m - 1) (by omega) hm1 (by omega)
        have ne : zs[m] ≠ zs[m - 1] := fun e => by
          have := keeps_neg (d := zs.toArray) (m := m) (by omega) (by rw [g, g1, e])
          rw [q] at this
          cases this
        have le2 : zs[m - 1] ≤ zs[m] := List.pairwise_iff_getElem.1 hs (m - 1) m hm1 hm (by omega)
        omega
    | false =>
      simp only [Bool.false_eq_true, if_false, List.append_nil]
      refine ⟨h1, fun x => ?_⟩
      rw [h2 x, List.mem_append]
      refine ⟨Or.inl, fun hx => hx.elim id fun hx => ?_⟩
      rw [List.mem_singleton.1 hx]
      have m0 : m ≠ 0 := fun e => by
        subst e
        rw [keeps_lt_one _ 0 (by omega)] at q
        cases q
      have hm1 : m - 1 < zs.length := by omega
      have e : zs[m] = zs[m - 1] := Classical.byContradiction fun hne => by
        have := keeps_pos (d := zs.toArray) (m := m) (by rw [g, bang_get hm1]; exact hne)
        rw [q] at this
        cases this
      rw [e]
      have hl : m - 1 < (zs.take m).length := by rw [List.length_take]; omega
      have := List.getElem_mem hl
      rwa [List.getElem_take] at this
theorem compact_sorted {zs : List Int} (hs : zs.Pairwise (· ≤ ·)) : (compact zs).Pairwise (· < ·) ∧ ∀ x, x ∈ compact zs ↔ x ∈ zs := by
  have := compact_up hs zs.length (Nat.le_refl _)
  rw [List.take_length] at this
  exact this
theorem sorted_extI : ∀ {a b : List Int}, a.Pairwise (· < ·) → b.Pairwise (· < ·) → (∀ x, x ∈ a ↔ x ∈ b) → a = b
  | [], [], _, _, _ => rfl
  | [], y :: b, _, _, h => by have := (h y).2 (by simp); simp at this
  | x :: a, [], _, _, h => by have := (h x).1 (by simp); simp at this
  | x :: a, y :: b, ha, hb, h => by
    rw [List.pairwise_cons] at ha hb
    have e : x = y := by
      rcases List.mem_cons.1 ((h x).1 (by simp)) with e | e
      · exact e
      · rcases List.mem_cons.1 ((h y).2 (by simp)) with e' | e'
        · exact e'.symm
        · have h1 := hb.1 x e
          have h2 := ha.1 y e'
          omega
    subst e
    congr 1
    refine sorted_extI ha.2 hb.2 (fun z => ⟨fun hz => ?_, fun hz => ?_⟩)
    · have h1 := ha.1 z hz
      rcases List.mem_cons.1 ((h z).1 (by simp [hz])) with e | e
      · omega
      · exact e
    · have h1 := hb.1 z hz
      rcases List.mem_cons.1 ((h z).2 (by simp [hz])) with e | e
      · omega
      · exact e
theorem tw_all (p : Int → Bool) : ∀ (l : List Int), ∀ y ∈ l.takeWhile p, p y = true
  | [], y, h => by simp at h
  | x :: l, y, h => by
    rw [List.takeWhile_cons] at h
    split at h
    · rename_i q
      rcases List.mem_cons.1 h with rfl | h
      · exact q
      · exact tw_all p l y h
    · cases h

def putI (x : Int) (l : List Int) : List Int := if x ∈ l then l else (l.takeWhile fun y => decide (y < x)) ++ (x :: l.dropWhile fun y => decide (y < x))
theorem putI_spec {x : Int} {l : List Int} (hs : l.Pairwise (· < ·)) : (putI x l).Pairwise (· < ·) ∧ ∀ y, y ∈ putI x l ↔ y = x ∨ y ∈ l := by
  unfold putI
  split
  · rename_i h
    exact ⟨hs, fun y => ⟨Or.inr, fun hy => hy.elim (fun e => e ▸ h) id⟩⟩
  · rename_i h
    have e : l.takeWhile (fun y => decide (y < x)) ++ l.dropWhile (fun y => decide (y < x)) = l := List.takeWhile_append_dropWhile
    have ht : ∀ y ∈ l.takeWhile (fun y => decide (y < x)), y < x := fun y hy => by
      have := tw_all _ _ y hy
      simpa using this
    have hs2 := hs
    rw [← e] at hs2
    obtain ⟨p1, p2, p3⟩ := List.pairwise_append.1 hs2
    have hd : ∀ y ∈ l.dropWhile (fun y => decide (y < x)), x < y := fun y hy => by
      cases q : l.dropWhile (fun y => decide (y < x)) with
      | nil => rw [q] at hy; cases hy
      | cons z t =>
        have hz : ¬ z < x := by
          have := List.head?_dropWhile_not (fun y => decide (y < x)) l
          rw [q] at this
          simpa using this
        have hzm : z ∈ l := by
          rw [← e, q]
          simp
        have hzx : x < z := by
          have : z ≠ x := fun ee => h (ee ▸ hzm)
          omega
        rw [q] at hy p2
        rcases List.mem_cons.1 hy with rfl | hy
        · exact hzx
        · have := (List.pairwise_cons.1 p2).1 y hy
          omega
    refine ⟨List.pairwise_append.2 ⟨p1, List.pairwise_cons.2 ⟨hd, p2⟩, fun a ha b hb => ?_⟩, fun y => ?_⟩
    · rcases List.mem_cons.1 hb with rfl | hb
      · exact ht a ha
      · exact p3 a ha b hb
    · rw [List.mem_append, List.mem_cons]
      have : y ∈ l ↔ y ∈ l.takeWhile (fun y => decide (y < x)) ∨ y ∈ l.dropWhile (fun y => decide (y < x)) := by
        conv => lhs; rw [← e]
        rw [List.mem_append]
      rw [this]
      constructor
      · rintro (h | h | h)
        · exact .inr (.inl h)
        · exact .inl h
        · exact .inr (.inr h)
      · rintro (h | h | h)
        · exact .inr (.inl h)
        · exact .inl h
        · exact .inr (.inr h)
theorem puts_spec : ∀ (xs acc : List Int), acc.Pairwise (· < ·) → (xs.foldl (fun l x => putI x l) acc).Pairwise (· < ·) ∧ ∀ y, y ∈ xs.foldl (fun l x => putI x l) acc ↔ y ∈ xs ∨ y ∈ acc
  | [], acc, h => ⟨h, fun y => by simp⟩
  | x :: xs, acc, h => by
    obtain ⟨p1, p2⟩ := putI_spec (x := x) h
    obtain ⟨q1, q2⟩ := puts_spec xs (putI x acc) p1
    refine ⟨q1, fun y => ?_⟩
    rw [List.foldl_cons, q2 y, p2 y, List.mem_cons]
    constructor
    · rintro (h | h | h)
      · exact .inl (.inr h)
      · exact .inl (.inl h)
      · exact .inr h
    · rintro ((h | h) | h)
      · exact .inr (.inl h)
      · exact .inl h
      · exact .inr (.inr h)
theorem views_same (xs : List Int) : compact (xs.mergeSort fun x y => decide (x ≤ y)) = xs.foldl (fun l x => putI x l) [] := by
  have hs : (xs.mergeSort fun x y => decide (x ≤ y)).Pairwise (· ≤ ·) := by
    have := List.pairwise_mergeSort (le := fun x y : Int => decide (x ≤ y)) (fun a b c h1 h2 => by simp at h1 h2 ⊢; omega) (fun a b => by simp; omega) xs
    exact this.imp fun h => by simpa using h
  obtain ⟨c1, c2⟩ := compact_sorted hs
  obtain ⟨p1, p2⟩ := puts_spec xs [] List.Pairwise.nil
  refine sorted_extI c1 p1 fun x => ?_
  rw [c2 x, p2 x, List.mem_mergeSort]
  simp
end Go.Proofs.YthocpcfjfgnkgaaG
namespace Go.Proofs.YthocpcfjfgnkgaaG
open Go Go.Proofs.YthocpcfjfgnkgaaRv Go.RowKit
set_option linter.unusedVariables false
set_option linter.unusedSimpArgs false

theorem tw_at (x : Int) : ∀ (l : List Int) (i : Nat) (h : i < (l.takeWhile fun y => decide (y < x)).length) (h' : i < l.length), l[i] < x
  | [], i, h, h' => by simp at h'
  | y :: l, i, h, h' => by
    rw [List.takeWhile_cons] at h
    split at h
    · rename_i q
      cases i with
      | zero => simpa using q
      | succ i => exact tw_at x l i (by simpa using h) (by simpa using h')
    · simp at h
theorem tw_end (x : Int) : ∀ (l : List Int) (h : (l.takeWhile fun y => decide (y < x)).length < l.length), ¬ l[(l.takeWhile fun y => decide (y < x)).length] < x
  | [], h => by simp at h
  | y :: l, h => by
    by_cases q : y < x
    · have e : (y :: l).takeWhile (fun y => decide (y < x)) = y :: l.takeWhile (fun y => decide (y < x)) := by rw [List.takeWhile_cons, if_pos (by simpa using q)]
      simp only [e, List.length_cons] at h ⊢
      exact tw_end x l (by omega)
    · have e : (y :: l).takeWhile (fun y => decide (y < x)) = [] := by rw [List.takeWhile_cons, if_neg (by simpa using q)]
      simp only [e, List.length_nil] at h ⊢
      simpa using q
theorem tw_le (x : Int) (l : List Int) : (l.takeWhile fun y => decide (y < x)).length ≤ l.length := by
  have e : l.takeWhile (fun y => decide (y < x)) ++ l.dropWhile (fun y => decide (y < x)) = l := List.takeWhile_append_dropWhile
  have := congrArg List.length e
  rw [List.length_append] at this
  omega
theorem tw_cut (x : Int) (l : List Int) : l.take (l.takeWhile fun y => decide (y < x)).length = l.takeWhile (fun y => decide (y < x)) ∧ l.drop (l.takeWhile fun y => decide (y < x)).length = l.dropWhile (fun y => decide (y < x)) := by
  have e : l.takeWhile (fun y => decide (y < x)) ++ l.dropWhile (fun y => decide (y < x)) = l := List.takeWhile_append_dropWhile
  have h1 := List.take_left' (l₁ := l.takeWhile fun y => decide (y < x)) (l₂ := l.dropWhile fun y => decide (y < x)) rfl
  have h2 := List.drop_left' (l₁ := l.takeWhile fun y => decide (y < x)) (l₂ := l.dropWhile fun y => decide (y < x)) rfl
  rw [e] at h1 h2
  exact ⟨h1, h2⟩
theorem tw_mem {x : Int} : ∀ {l : List Int}, l.Pairwise (· < ·) → x ∈ l → ∃ h : (l.takeWhile fun y => decide (y < x)).length < l.length, l[(l.takeWhile fun y => decide (y < x)).length] = x
  | [], _, hx => by simp at hx
  | y :: l, hs, hx => by
    rw [List.pairwise_cons] at hs
    by_cases q : y < x
    · have e : (y :: l).takeWhile (fun y => decide (y < x)) = y :: l.takeWhile (fun y => decide (y < x)) := by rw [List.takeWhile_cons, if_pos (by simpa using q)]
      have hx' : x ∈ l := by
        rcases List.mem_cons.1 hx with h | h
        · omega
        · exact h
      obtain ⟨h, h2⟩ := tw_mem hs.2 hx'
      simp only [e, List.length_cons]
      exact ⟨by omega, by simpa using h2⟩
    · have e : (y :: l).takeWhile (fun y => decide (y < x)) = [] := by rw [List.takeWhile_cons, if_neg (by simpa using q)]
      simp only [e, List.length_nil]
      refine ⟨by simp, ?_⟩
      rcases List.mem_cons.1 hx with h | h
      · simpa using h.symm
      · have := hs.1 x h
        omega
theorem spec_Views.ev (z : Bool) (vs : List Vt) (hN : vs.length ≤ 1048576) : Ev (fun k => spec_Views.f k z (vs.map Vt.t)) (false, (vs.map fun x => x.v).foldl (fun l x => putI x l) []) := by
  refine ev_step ?_
  simp only [spec_Views.f, spec_Views.b, List.length_map]
  have key : ∀ (d n : Nat) (acc : List Int), n + d = vs.length → acc.Pairwise (· < ·) → acc.length ≤ n → Ev (fun k => spec_Views.l0 k false acc z (vs.map Vt.t) (vs.length : Int) (n : Int)) (false, ((vs.drop n).map fun x => x.v).foldl (fun l x => putI x l) acc) := by
    intro d
    induction d with
    | zero =>
      intro n acc hn hs hl
      refine ev_step ?_
      simp only [spec_Views.l0, spec_Views.l0b]
      rw [List.drop_of_length_le (by omega)]
      exact ev_neg (by omega) (ev_some rfl)
    | succ d ih =>
      intro n acc hn hs hl
      have hlt : n < vs.length := by omega
      have P := putI_spec (x := vs[n].v) hs
      have hpl : (putI vs[n].v acc).length ≤ n + 1 := by
        unfold putI
        split
        · omega
        · have e : acc.takeWhile (fun y => decide (y < vs[n].v)) ++ acc.dropWhile (fun y => decide (y < vs[n].v)) = acc := List.takeWhile_append_dropWhile
          have := congrArg List.length e
          rw [List.length_append] at this ⊢
          rw [List.length_cons]
          omega
      have i2 := ih (n + 1) (putI vs[n].v acc) (by omega) P.1 hpl
      rw [List.drop_eq_getElem_cons hlt, List.map_cons, List.foldl_cons]
      generalize hu : vs[n] = u at *
      have hle := tw_le u.v acc
      have stop : Ev (fun k => spec_Views.l2 k false acc ((acc.takeWhile fun y => decide (y < u.v)).length : Int) z (vs.map Vt.t) (vs.length : Int) (n : Int) u.v u.h u.bz u.blk u.who u.tz u.tag) (false, ((vs.drop (n + 1)).map fun x => x.v).foldl (fun l x => putI x l) (putI u.v acc)) := by
        have cut := tw_cut u.v acc
        have ins : u.v ∉ acc → Ev (fun k => spec_Views.l3 k false acc ((acc.takeWhile fun y => decide (y < u.v)).length : Int) z (vs.map Vt.t) (vs.length : Int) (n : Int) u.v u.h u.bz u.blk u.who u.tz u.tag) (false, ((vs.drop (n + 1)).map fun x => x.v).foldl (fun l x => putI x l) (putI u.v acc)) := fun hno => by
          have pe : putI u.v acc = acc.takeWhile (fun y => decide (y < u.v)) ++ (u.v :: acc.dropWhile fun y => decide (y < u.v)) := by unfold putI; rw [if_neg hno]
          have el : (acc.take (acc.takeWhile fun y => decide (y < u.v)).length).drop 0 ++ [u.v] ++ (acc.take acc.length).drop (acc.takeWhile fun y => decide (y < u.v)).length = putI u.v acc := by
            rw [pe, List.drop_zero, List.take_length, cut.1, cut.2]
            simp
          have ln : ((acc.take (acc.takeWhile fun y => decide (y < u.v)).length).drop 0).length ≤ acc.length := by rw [List.drop_zero, List.length_take]; omega
          have ln2 : (((acc.take acc.length).drop (acc.takeWhile fun y => decide (y < u.v)).length)).length ≤ acc.length := by rw [List.length_drop, List.length_take]; omega
          refine ev_step ?_
          simp only [spec_Views.l3, spec_Views.l3b, Int.toNat_natCast, succ_nat n (by omega), Bool.and_false, el]
          exact ev_pos (by omega) (ev_pos (by omega) (ev_pos (by omega) (ev_pos (by omega) (ev_pos (by omega) (ev_pos (by omega) (ev_pos (by omega) (ev_pos (by omega) (ev_pos (by omega) (ev_pos (by rw [List.length_append, List.length_singleton]; omega) i2)))))))))
        refine ev_step ?_
        simp only [spec_Views.l2, spec_Views.l2b, succ_nat n (by omega)]
        by_cases c : (acc.takeWhile fun y => decide (y < u.v)).length < acc.length
        · by_cases q : acc[(acc.takeWhile fun y => decide (y < u.v)).length] = u.v
          · have hm : u.v ∈ acc := by rw [← q]; exact List.getElem_mem c
            have pe : putI u.v acc = acc := by unfold putI; rw [if_pos hm]
            rw [pe] at i2 ⊢
            exact ev_pos (by omega) (ev_pos (by omega) (ev_pos (by omega) (ev_pos (by rw [rdI_nat c]; exact q) i2)))
          · exact ev_pos (by omega) (ev_pos (by omega) (ev_pos (by omega) (ev_neg (by rw [rdI_nat c]; exact q) (ins fun hm => q (tw_mem hs hm).2))))
        · exact ev_neg (by omega) (ins fun hm => c (tw_mem hs hm).1)
      have walk : ∀ (m i : Nat), i + m = (acc.takeWhile fun y => decide (y < u.v)).length → Ev (fun k => spec_Views.l1 k false acc (i : Int) z (vs.map Vt.t) (vs.length : Int) (n : Int) u.v u.h u.bz u.blk u.who u.tz u.tag) (false, ((vs.drop (n + 1)).map fun x => x.v).foldl (fun l x => putI x l) (putI u.v acc)) := by
        intro m
        induction m with
        | zero =>
          intro i hi
          have hi' : i = (acc.takeWhile fun y => decide (y < u.v)).length := by omega
          refine ev_step ?_
          simp only [spec_Views.l1, spec_Views.l1b]
          rw [hi']
          by_cases c : (acc.takeWhile fun y => decide (y < u.v)).length < acc.length
          · refine ev_pos (by omega) (ev_pos (by omega) (ev_pos (by omega) (ev_neg ?_ stop)))
            rw [rdI_nat c]
            exact tw_end u.v acc c
          · exact ev_neg (by omega) stop
        | succ m ihm =>
          intro i hi
          have i3 := ihm (i + 1) (by omega)
          have hil : i < acc.length := by omega
          refine ev_step ?_
          simp only [spec_Views.l1, spec_Views.l1b, succ_nat i (by omega)]
          refine ev_pos (by omega) (ev_pos (by omega) (ev_pos (by omega) (ev_pos ?_ i3)))
          rw [rdI_nat hil]
          exact tw_at u.v acc i (by omega) hil
      refine ev_step ?_
      simp only [spec_Views.l0, spec_Views.l0b, List.length_map, Int.toNat_natCast, vt_at hlt, hu, Vt.c0, Vt.c1, Vt.c2, Vt.c2z, Vt.c3, Vt.c4, Vt.c4z]
      exact ev_pos (by omega) (ev_pos (by omega) (ev_pos (by omega) (walk _ 0 (Nat.zero_add _))))
  exact key vs.length 0 [] (by omega) List.Pairwise.nil (by simp)
end Go.Proofs.YthocpcfjfgnkgaaG
namespace Go.Proofs.YthocpcfjfgnkgaaG
open Go Go.Proofs.YthocpcfjfgnkgaaRv Go.RowKit
set_option linter.unusedVariables false
set_option linter.unusedSimpArgs false

def mkI (L : Nat) (a : Int) : List Int := (List.range L).map fun (i : Nat) => a + (i : Int)
theorem mkI_len (L : Nat) (a : Int) : (mkI L a).length = L := by simp [mkI]
theorem mkI_rd {L : Nat} {a : Int} {i : Nat} (h : i < L) : rdI (mkI L a) (i : Int) = a + (i : Int) := by
  rw [rdI_nat (by rw [mkI_len]; exact h)]
  simp [mkI]
theorem laws_eqIntS.ev (y z : Bool) (l : List Int) (hl : l.length ≤ 1048576) : Ev (fun k => laws_eqIntS.f k y l z l) true := by
  refine ev_step ?_
  simp only [laws_eqIntS.f, laws_eqIntS.b]
  refine ev_neg (by simp) ?_
  have key : ∀ (d n : Nat), n + d = l.length → Ev (fun k => laws_eqIntS.l0 k y l z l (n : Int)) true := by
    intro d
    induction d with
    | zero =>
      intro n hn
      refine ev_step ?_
      simp only [laws_eqIntS.l0, laws_eqIntS.l0b]
      exact ev_neg (by omega) (ev_some rfl)
    | succ d ih =>
      intro n hn
      refine ev_step ?_
      simp only [laws_eqIntS.l0, laws_eqIntS.l0b, succ_nat n (by omega)]
      exact ev_pos (by omega) (ev_pos (by omega) (ev_pos (by omega) (ev_pos (by omega) (ev_pos (by omega) (ev_neg (by simp) (ih (n + 1) (by omega)))))))
  exact key l.length 0 (by omega)
theorem laws_markIntS.ev (z : Bool) (l : List Int) (hl : l.length ≤ 1048576) (a : Int) (ha : okM a) : Ev (fun k => laws_markIntS.f k z l a) (a + l.length, z, mkI l.length a) := by
  refine ev_step ?_
  simp only [laws_markIntS.f, laws_markIntS.b]
  have key : ∀ (d n : Nat) (ys : List Int), n + d = l.length → ys.length = l.length → ys.take n = (mkI l.length a).take n → Ev (fun k => laws_markIntS.l0 k z ys (a + (n : Int)) (n : Int)) (a + l.length, z, mkI l.length a) := by
    intro d
    induction d with
    | zero =>
      intro n ys hn hy ht
      refine ev_step ?_
      simp only [laws_markIntS.l0, laws_markIntS.l0b]
      refine ev_neg (by omega) (ev_some ?_)
      obtain rfl : n = l.length := by omega
      have e1 : (mkI l.length a).take l.length = mkI l.length a := List.take_of_length_le (by rw [mkI_len]; omega)
      rw [← hy, List.take_length, hy, e1] at ht
      rw [ht]
    | succ d ih =>
      intro n ys hn hy ht
      have hlt : n < l.length := by omega
      have hm : n < (mkI l.length a).length := by rw [mkI_len]; exact hlt
      have i2 := ih (n + 1) (ys.set n (a + (n : Int))) (by omega) (by simp [hy]) (by
        rw [List.take_succ_eq_append_getElem (by simp; omega), List.take_succ_eq_append_getElem hm, List.take_set_of_le (Nat.le_refl n), ht, List.getElem_set_self]
        simp [mkI])
      refine ev_step ?_
      simp only [laws_markIntS.l0, laws_markIntS.l0b, Int.toNat_natCast, succ_nat n (by omega), wmk a ha n (by omega)]
      exact ev_pos (by omega) (ev_pos (by omega) (ev_pos (by omega) i2))
  have := key l.length 0 l (by omega) rfl (by simp)
  simpa using this
theorem laws_heldIntS.ev (z : Bool) (L : Nat) (h : L ≤ 1048576) (a : Int) (ha : okM a) : Ev (fun k => laws_heldIntS.f k z (mkI L a) a) (a + L) := by
  refine ev_step ?_
  simp only [laws_heldIntS.f, laws_heldIntS.b]
  have key : ∀ (d n : Nat), n + d = L → Ev (fun k => laws_heldIntS.l0 k z (mkI L a) (a + (n : Int)) (n : Int)) (a + L) := by
    intro d
    induction d with
    | zero =>
      intro n hn
      refine ev_step ?_
      simp only [laws_heldIntS.l0, laws_heldIntS.l0b, mkI_len]
      refine ev_neg (by omega) (ev_some ?_)
      obtain rfl : n = L := by omega
      rfl
    | succ d ih =>
      intro n hn
      have hlt : n < L := by omega
      refine ev_step ?_
      simp only [laws_heldIntS.l0, laws_heldIntS.l0b, mkI_len, mkI_rd hlt, succ_nat n (by omega), wmk a ha n (by omega)]
      exact ev_pos (by omega) (ev_pos (by omega) (ev_pos (by omega) (ev_neg (by simp) (ih (n + 1) (by omega)))))
  have := key L 0 (by omega)
  simpa using this
def viewsV (vs : List Vt) : List Int := (vs.map fun x => x.v).foldl (fun l x => putI x l) []
theorem putI_len (x : Int) (l : List Int) : (putI x l).length ≤ l.length + 1 := by
  unfold putI
  split
  · omega
  · have e : l.takeWhile (fun y => decide (y < x)) ++ l.dropWhile (fun y => decide (y < x)) = l := List.takeWhile_append_dropWhile
    have := congrArg List.length e
    rw [List.length_append] at this ⊢
    rw [List.length_cons]
    omega
theorem puts_len : ∀ (xs acc : List Int), (xs.foldl (fun l x => putI x l) acc).length ≤ acc.length + xs.length
  | [], acc => by simp
  | x :: xs, acc => by
    have h1 := puts_len xs (putI x acc)
    have h2 := putI_len x acc
    rw [List.foldl_cons, List.length_cons]
    omega
theorem viewsV_len (vs : List Vt) : (viewsV vs).length ≤ vs.length := by
  have := puts_len (vs.map fun x => x.v) []
  rw [List.length_map, List.length_nil] at this
  unfold viewsV
  omega
theorem impl_Views.ev (z : Bool) (vs : List Vt) (hN : vs.length ≤ 1048576) : Ev (fun k => impl_Views.f k z (vs.map Vt.t)) (false, viewsV vs) := by
  refine ev_step ?_
  simp only [impl_Views.f, impl_Views.b, List.length_map]
  have key : ∀ (d n : Nat), n + d = vs.length → Ev (fun k => impl_Views.l0 k ((vs.map fun x => x.v).take n) z (vs.map Vt.t) (vs.length : Int) (n : Int)) (false, viewsV vs) := by
    intro d
    induction d with
    | zero =>
      intro n hn
      refine ev_step ?_
      simp only [impl_Views.l0, impl_Views.l0b]
      rw [List.take_of_length_le (by simp; omega)]
      refine ev_neg (by omega) (Ev.bind (ev_pos (decide_eq_true (by rw [List.length_map]; omega)) (ev_some rfl) : Ev (fun k => slices_Sort__intint.f k false (vs.map fun x => x.v)) (false, sortI (vs.map fun x => x.v))) (Ev.bind (ev_some rfl : Ev (fun k => slices_Compact__intint.f k false (sortI (vs.map fun x => x.v))) (false, compI (sortI (vs.map fun x => x.v)))) (ev_some ?_)))
      show (false, compI (sortI (vs.map fun x => x.v))) = _
      unfold compI sortI viewsV
      rw [views_same]
    | succ d ih =>
      intro n hn
      have hlt : n < vs.length := by omega
      have i2 := ih (n + 1) (by omega)
      rw [List.take_succ_eq_append_getElem (by simpa using hlt)] at i2
      refine ev_step ?_
      simp only [impl_Views.l0, impl_Views.l0b, Int.toNat_natCast, vt_at hlt, Vt.c0, succ_nat n (by omega), List.length_map]
      refine ev_pos (by omega) (ev_pos (by omega) (ev_pos (by omega) (ev_pos ?_ ?_)))
      · rw [List.length_take]; omega
      · simpa using i2
  exact key vs.length 0 (by omega)
theorem laws_FnExactViews.top (x0 : Sl Vt) (g0 : GoodL Vt.good x0.l) : Ev (fun k => laws_FnExactViews.f k x0.z (x0.l.map Vt.t)) true := by
  refine ev_step ?_
  simp only [laws_FnExactViews.f, laws_FnExactViews.b]
  obtain ⟨r2, e2, s⟩ := laws_szVoteS.ev x0.z x0.l (fitV_of g0) 1048576 (by omega) (by omega)
  rcases s with rfl | ⟨t1, t2, okv⟩
  · exact Ev.bind e2 (ev_pos (by omega) (ev_some rfl))
  refine Ev.bind e2 (ev_neg (by omega) ?_)
  have fv2 := fewV_cp okv
  have A := laws_toVoteS.ev x0.z x0.l okv
  have hn : (x0.l.map Vt.cp).length ≤ 1048576 := fv2.1
  have S : Ev (fun k => spec_Views.f k false ((x0.l.map Vt.cp).map Vt.t)) (false, viewsV (x0.l.map Vt.cp)) := spec_Views.ev false _ hn
  have I := impl_Views.ev false _ hn
  have ob := viewsV_len (x0.l.map Vt.cp)
  have ob : (viewsV (x0.l.map Vt.cp)).length ≤ 1048576 := by omega
  generalize viewsV (x0.l.map Vt.cp) = v at *
  obtain ⟨pa, ma, pa1, pa2⟩ := laws_markVoteS.ev false _ fv2 1 (by omega) (by omega)
  have Q := laws_eqIntS.ev false false v ob
  have M := laws_markIntS.ev false v ob 1 ⟨by omega, by omega⟩
  have H := laws_heldIntS.ev false v.length ob 1 ⟨by omega, by omega⟩
  exact Ev.bind A (Ev.bind S (Ev.bind A (Ev.bind I (Ev.bind Q (ev_neg (by simp) (Ev.bind A (Ev.bind (laws_eqVoteS.ev _ _ _ fv2) (ev_neg (by simp) (Ev.bind ma (ev_neg (by omega) (Ev.bind Q (ev_neg (by simp) (Ev.bind M (Ev.bind H (ev_neg (by omega) (ev_neg (by simp) (Ev.bind A (Ev.bind I (Ev.bind Q (ev_neg (by simp) (Ev.bind H (ev_neg (by omega) (ev_neg (by simp) (ev_some rfl))))))))))))))))))))))))
end Go.Proofs.YthocpcfjfgnkgaaG
