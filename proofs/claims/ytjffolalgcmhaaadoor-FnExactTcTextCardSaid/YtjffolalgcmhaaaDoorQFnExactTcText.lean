/- What the printed forms answer, over numbers and lists alone. Each lemma names its conditions. -/
import Derived.Test.YtjffolalgcmhaaaDoorGFnExactTcTexta
import Derived.Lib.ItoaNum
import Derived.Lib.Join
namespace Go.Proofs.YtjffolalgcmhaaaDoorG
open Go Go.Proofs.YtjffolalgcmhaaaDoorRv Go.RowKit
set_option linter.unusedVariables false
set_option linter.unusedSimpArgs false


theorem impl_within.ev (a b c : Int) : Ev (fun k => impl_within.f k a b c) (decide (b ≤ a ∧ a ≤ c)) := by
  refine ev_step ?_
  simp only [impl_within.f, impl_within.b]
  exact ev_ite (fun h => ev_some (by simp [h])) (fun h => ev_some (by simp [h]))
theorem spec_l01In.ev (a b c : Int) : Ev (fun k => spec_l01In.f k a b c) (decide (b ≤ a ∧ a ≤ c)) := by
  refine ev_step ?_
  simp only [spec_l01In.f, spec_l01In.b]
  exact ev_ite (fun h => ev_some (by simp [show b ≤ a from h])) (fun h => ev_some (by simp [show ¬ b ≤ a from h]))
theorem impl_isNum.ev (a : Int) : Ev (fun k => impl_isNum.f k a) (isNum a) := by
  refine ev_step ?_
  simp only [impl_isNum.f, impl_isNum.b]
  exact Ev.bind (impl_within.ev _ _ _) (ev_some rfl)
theorem spec_l01Num.ev (a : Int) : Ev (fun k => spec_l01Num.f k a) (isNum a) := by
  refine ev_step ?_
  simp only [spec_l01Num.f, spec_l01Num.b]
  exact Ev.bind (spec_l01In.ev _ _ _) (ev_some rfl)


structure Row where
  f0 : Int
  z : Bool
  f1 : List Int
instance : Inhabited Row := ⟨⟨0, false, []⟩⟩
def Row.t (r : Row) : T := .agg [.int .i64 r.f0, .nums 5 .u8 r.z r.f1]
theorem Row.c0 (r : Row) : (r.t.cells.getD 0 .bad).toInt = r.f0 := rfl
theorem Row.c1 (r : Row) : (r.t.cells.getD 1 .bad).toNums = r.f1 := rfl

end Go.Proofs.YtjffolalgcmhaaaDoorG
namespace Go.Proofs.YtjffolalgcmhaaaDoorG
open Go Go.Proofs.YtjffolalgcmhaaaDoorRv Go.RowKit
set_option linter.unusedVariables false
set_option linter.unusedSimpArgs false


theorem rdI_nat {l : List Int} {n : Nat} (h : n < l.length) : rdI l (n : Int) = l[n] := by simp [rdI, h]
def bytesOk (b : List Int) : Prop := ∀ x ∈ b, 0 ≤ x ∧ x < 256

end Go.Proofs.YtjffolalgcmhaaaDoorG
namespace Go.Proofs.YtjffolalgcmhaaaDoorG
open Go Go.Proofs.YtjffolalgcmhaaaDoorRv Go.RowKit
set_option linter.unusedVariables false
set_option linter.unusedSimpArgs false

section
variable (y0 y1 y2 : Bool) (h b : List Int)



end
end Go.Proofs.YtjffolalgcmhaaaDoorG
namespace Go.Proofs.YtjffolalgcmhaaaDoorG
open Go Go.Proofs.YtjffolalgcmhaaaDoorRv Go.RowKit
set_option linter.unusedVariables false
set_option linter.unusedSimpArgs false


section
variable (z : Bool) (l : List Int)
end


theorem succ_nat (i : Nat) (h : i ≤ 1000000000) : wrap64 ((i : Int) + 1) = ((i + 1 : Nat) : Int) := by unfold wrap64; omega

end Go.Proofs.YtjffolalgcmhaaaDoorG
namespace Go.Proofs.YtjffolalgcmhaaaDoorG
open Go Go.Proofs.YtjffolalgcmhaaaDoorRv Go.RowKit
set_option linter.unusedVariables false
set_option linter.unusedSimpArgs false


def Row.ok (r : Row) : Prop := r.f1.length ≤ 1048576 ∧ bytesOk r.f1
def Rows (l : List Row) : Prop := l.length ≤ 1048576 ∧ ∀ r ∈ l, r.ok
theorem laws_szByteS.ev (z : Bool) (l : List Int) (h : l.length ≤ 9223372036854775807) (a : Int) (h0 : 0 ≤ a) (h1 : a ≤ 1048576) : ∃ r, Ev (fun k => laws_szByteS.f k z l a) r ∧ SzR (okB l) a r := by
  have e : wrap64 (a - (l.length : Int)) = a - (l.length : Int) := w64 (by omega) (by omega)
  by_cases c : (l.length : Int) ≤ a
  · refine ⟨a - l.length, ev_step ?_, Or.inr ⟨by omega, by omega, by unfold okB; omega⟩⟩
    simp only [laws_szByteS.f, laws_szByteS.b, e]
    clear e
    exact ev_neg (by omega) (ev_some rfl)
  · refine ⟨-1, ev_step ?_, Or.inl rfl⟩
    simp only [laws_szByteS.f, laws_szByteS.b, e]
    clear e
    exact ev_pos (by omega) (ev_some rfl)
theorem laws_szEntry.ev (w hi : Int) (z : Bool) (l : List Int) (h : l.length ≤ 9223372036854775807) (a : Int) (h0 : 0 ≤ a) (h1 : a ≤ 1048576) : ∃ q, Ev (fun k => laws_szEntry.f k w hi z l a) q ∧ SzR (okB l) a q := by
  obtain ⟨q, e, s⟩ := laws_szByteS.ev z l h a h0 h1
  rcases s with rfl | ⟨s1, s2, s3⟩
  · refine ⟨-1, ev_step ?_, Or.inl rfl⟩
    simp only [laws_szEntry.f, laws_szEntry.b]
    exact Ev.bind e (ev_pos (by omega) (ev_some rfl))
  · refine ⟨q, ev_step ?_, Or.inr ⟨s1, s2, s3⟩⟩
    simp only [laws_szEntry.f, laws_szEntry.b]
    exact Ev.bind e (ev_neg (by omega) (ev_some rfl))


theorem laws_toByteS.ev (z : Bool) (l : List Int) (h : okB l) : Ev (fun k => laws_toByteS.f k z l) (false, l) := by
  have hl : l.length ≤ 1048576 := h
  refine ev_step ?_
  simp only [laws_toByteS.f, laws_toByteS.b]
  refine ev_pos trivial (ev_pos (by omega) (ev_pos (by omega) ?_))
  have key : ∀ (d n : Nat) (ys : List Int), n + d = l.length → ys.length = l.length → ys.take n = l.take n → Ev (fun k => laws_toByteS.l0 k z l ys (n : Int)) (false, l) := by
    intro d
    induction d with
    | zero =>
      intro n ys hn hy ht
      refine ev_step ?_
      simp only [laws_toByteS.l0, laws_toByteS.l0b]
      refine ev_neg (by omega) (ev_some ?_)
      obtain rfl : n = l.length := by omega
      rw [List.take_length, ← hy, List.take_length] at ht
      rw [ht]
    | succ d ih =>
      intro n ys hn hy ht
      have hlt : n < l.length := by omega
      refine ev_step ?_
      have i2 := ih (n + 1) (ys.set n l[n]) (by omega) (by simp [hy]) (by
        rw [List.take_succ_eq_append_getElem (by simp; omega), List.take_succ_eq_append_getElem hlt, List.take_set_of_le (Nat.le_refl n), ht, List.getElem_set_self])
      simp only [laws_toByteS.l0, laws_toByteS.l0b, rdI_nat hlt, succ_nat n (by omega), Int.toNat_natCast]
      exact ev_pos (by omega) (ev_pos (by omega) (ev_pos (by omega) (ev_pos (by omega) (ev_pos (by omega) i2))))
  exact key l.length 0 _ (by omega) (by simp) (by simp)
def Row.cp (r : Row) : Row := ⟨r.f0, false, r.f1⟩
theorem laws_toEntry.ev (w hi : Int) (z : Bool) (l : List Int) (h : okB l) : Ev (fun k => laws_toEntry.f k w hi z l) (w, hi, false, l) := by
  refine ev_step ?_
  simp only [laws_toEntry.f, laws_toEntry.b]
  exact Ev.bind (laws_toByteS.ev z l h) (ev_some rfl)


theorem laws_eqByteS.ev (y z : Bool) (l : List Int) (h : okB l) : Ev (fun k => laws_eqByteS.f k y l z l) true := by
  have hl : l.length ≤ 1048576 := h
  refine ev_step ?_
  simp only [laws_eqByteS.f, laws_eqByteS.b]
  refine ev_neg (by simp) ?_
  have key : ∀ (d n : Nat), n + d = l.length → Ev (fun k => laws_eqByteS.l0 k y l z l (n : Int)) true := by
    intro d
    induction d with
    | zero =>
      intro n hn
      refine ev_step ?_
      simp only [laws_eqByteS.l0, laws_eqByteS.l0b]
      exact ev_neg (by omega) (ev_some rfl)
    | succ d ih =>
      intro n hn
      refine ev_step ?_
      simp only [laws_eqByteS.l0, laws_eqByteS.l0b, succ_nat n (by omega)]
      exact ev_pos (by omega) (ev_pos (by omega) (ev_pos (by omega) (ev_pos (by omega) (ev_pos (by omega) (ev_neg (by simp) (ih (n + 1) (by omega)))))))
  exact key l.length 0 (by omega)
theorem laws_eqEntry.ev (w hi : Int) (y z : Bool) (l : List Int) (h : okB l) : Ev (fun k => laws_eqEntry.f k w hi y l w hi z l) true := by
  refine ev_step ?_
  simp only [laws_eqEntry.f, laws_eqEntry.b]
  exact ev_neg (by simp) (ev_neg (by simp) (Ev.bind (laws_eqByteS.ev y z l h) (ev_neg (by simp) (ev_some rfl))))


end Go.Proofs.YtjffolalgcmhaaaDoorG
namespace Go.Proofs.YtjffolalgcmhaaaDoorG
open Go Go.Proofs.YtjffolalgcmhaaaDoorRv Go.RowKit
set_option linter.unusedVariables false
set_option linter.unusedSimpArgs false

end Go.Proofs.YtjffolalgcmhaaaDoorG
namespace Go.Proofs.YtjffolalgcmhaaaDoorG
open Go Go.Proofs.YtjffolalgcmhaaaDoorRv Go.RowKit
set_option linter.unusedVariables false
set_option linter.unusedSimpArgs false

structure By where
  z : Bool
  l : List Int
instance : Inhabited By := ⟨⟨false, []⟩⟩
def By.t (b : By) : T := .nums 5 .u8 b.z b.l
def By.cp (b : By) : By := ⟨false, b.l⟩
theorem By.c0 (b : By) : (b.t.cells.getD 0 .bad).toNums = b.l := rfl
structure QcV where
  v : Int
  h : Int
  bz : Bool
  blk : List Int
  mz : Bool
  bits : List Int
  tz : Bool
  tags : List By
structure Head where
  v : Int
  h : Int
  p : Int
  az : Bool
  par : List Int
  rz : Bool
  root : List Int
  q : QcV
instance : Inhabited Head := ⟨⟨0, 0, 0, false, [], false, [], ⟨0, 0, false, [], false, [], false, []⟩⟩⟩
def Head.t (x : Head) : T := .agg [.int .i64 x.v, .int .i64 x.h, .int .i64 x.p, .nums 5 .u8 x.az x.par, .nums 5 .u8 x.rz x.root, .int .i64 x.q.v, .int .i64 x.q.h, .nums 5 .u8 x.q.bz x.q.blk, .nums 5 .u8 x.q.mz x.q.bits, .sl 28 x.q.tz (x.q.tags.map By.t)]
section
variable (x : Head)
theorem Head.c0 : (x.t.cells.getD 0 .bad).toInt = x.v := rfl
theorem Head.c1 : (x.t.cells.getD 1 .bad).toInt = x.h := rfl
theorem Head.c2 : (x.t.cells.getD 2 .bad).toInt = x.p := rfl
end
def QcV.cp (q : QcV) : QcV := ⟨q.v, q.h, false, q.blk, false, q.bits, false, q.tags.map By.cp⟩
def Head.cp (x : Head) : Head := ⟨x.v, x.h, x.p, false, x.par, false, x.root, x.q.cp⟩
end Go.Proofs.YtjffolalgcmhaaaDoorG
namespace Go.Proofs.YtjffolalgcmhaaaDoorG
open Go Go.Proofs.YtjffolalgcmhaaaDoorRv Go.RowKit
set_option linter.unusedVariables false
set_option linter.unusedSimpArgs false

structure Light where
  l0 : Int
  l1 : Int
  l2 : Int
  l3 : Int
  l4 : Int
  rz : Bool
  rows : List Row
  skip : Int
  bz : Bool
  buf : List Int
  cz : Bool
  chain : List Head
def Light.cp (x : Light) : Light := ⟨x.l0, x.l1, x.l2, x.l3, x.l4, false, x.rows.map Row.cp, x.skip, false, x.buf, false, x.chain.map Head.cp⟩
end Go.Proofs.YtjffolalgcmhaaaDoorG
namespace Go.Proofs.YtjffolalgcmhaaaDoorG
open Go Go.Proofs.YtjffolalgcmhaaaDoorRv Go.RowKit
set_option linter.unusedVariables false
set_option linter.unusedSimpArgs false

structure Sl (α : Type) where
  z : Bool
  l : List α
def goodI (n : Int) : Prop := (Lit.int .i64 n).wf = true
def By.good (b : By) : Prop := b.l.length ≤ 9223372036854775807 ∧ ∀ n ∈ b.l, (Lit.int .u8 n).wf = true
def GoodL {α : Type} (g : α → Prop) (l : List α) : Prop := l.length ≤ 9223372036854775807 ∧ ∀ x ∈ l, g x
def Row.good (r : Row) : Prop := goodI r.f0 ∧ By.good ⟨r.z, r.f1⟩
def Tab.good (x : Sl Row) : Prop := GoodL Row.good x.l
def QcV.good (q : QcV) : Prop := goodI q.v ∧ goodI q.h ∧ By.good ⟨q.bz, q.blk⟩ ∧ By.good ⟨q.mz, q.bits⟩ ∧ GoodL By.good q.tags
def Head.good (h : Head) : Prop := goodI h.v ∧ goodI h.h ∧ goodI h.p ∧ By.good ⟨h.az, h.par⟩ ∧ By.good ⟨h.rz, h.root⟩ ∧ h.q.good
structure Vt where
  v : Int
  h : Int
  bz : Bool
  blk : List Int
  who : Int
  tz : Bool
  tag : List Int
instance : Inhabited Vt := ⟨⟨0, 0, false, [], 0, false, []⟩⟩
def Vt.t (x : Vt) : T := .agg [.int .i64 x.v, .int .i64 x.h, .nums 5 .u8 x.bz x.blk, .int .i64 x.who, .nums 5 .u8 x.tz x.tag]
theorem Vt.c0 (x : Vt) : (x.t.cells.getD 0 .bad).toInt = x.v := rfl
theorem Vt.c1 (x : Vt) : (x.t.cells.getD 1 .bad).toInt = x.h := rfl
theorem Vt.c2z (x : Vt) : (x.t.cells.getD 2 .bad).isNil = x.bz := rfl
theorem Vt.c2 (x : Vt) : (x.t.cells.getD 2 .bad).toNums = x.blk := rfl
def Vt.good (x : Vt) : Prop := goodI x.v ∧ goodI x.h ∧ By.good ⟨x.bz, x.blk⟩ ∧ goodI x.who ∧ By.good ⟨x.tz, x.tag⟩
def Vt.cp (x : Vt) : Vt := ⟨x.v, x.h, false, x.blk, x.who, false, x.tag⟩
structure En where
  who : Int
  high : Int
  tz : Bool
  tag : List Int
instance : Inhabited En := ⟨⟨0, 0, false, []⟩⟩
def En.t (x : En) : T := .agg [.int .i64 x.who, .int .i64 x.high, .nums 5 .u8 x.tz x.tag]
theorem en_at {l : List En} {i : Nat} (h : i < l.length) : (l.map En.t).getD i .bad = (l[i]).t := by simp [List.getD_eq_getElem?_getD, h]
theorem En.c0 (x : En) : (x.t.cells.getD 0 .bad).toInt = x.who := rfl
theorem En.c1 (x : En) : (x.t.cells.getD 1 .bad).toInt = x.high := rfl
theorem En.c2z (x : En) : (x.t.cells.getD 2 .bad).isNil = x.tz := rfl
theorem En.c2 (x : En) : (x.t.cells.getD 2 .bad).toNums = x.tag := rfl
def En.good (x : En) : Prop := goodI x.who ∧ goodI x.high ∧ By.good ⟨x.tz, x.tag⟩
def En.cp (x : En) : En := ⟨x.who, x.high, false, x.tag⟩

structure Lm where
  l0 : Int
  l1 : Int
  l2 : Int
  l3 : Int
  l4 : Int
def Lm.good (x : Lm) : Prop := goodI x.l0 ∧ goodI x.l1 ∧ goodI x.l2 ∧ goodI x.l3 ∧ goodI x.l4
structure TcV where
  v : Int
  ez : Bool
  ents : List En
def TcV.good (x : TcV) : Prop := goodI x.v ∧ GoodL En.good x.ents
structure Ps where
  skip : Int
  z : Bool
  buf : List Int
def Ps.good (x : Ps) : Prop := goodI x.skip ∧ By.good ⟨x.z, x.buf⟩
def Light.good (x : Light) : Prop := Lm.good ⟨x.l0, x.l1, x.l2, x.l3, x.l4⟩ ∧ GoodL Row.good x.rows ∧ Ps.good ⟨x.skip, x.bz, x.buf⟩ ∧ GoodL Head.good x.chain
structure Fo where
  l0 : Int
  l1 : Int
  l2 : Int
  l3 : Int
  l4 : Int
  hz : Bool
  heads : List Head
def Fo.good (x : Fo) : Prop := Lm.good ⟨x.l0, x.l1, x.l2, x.l3, x.l4⟩ ∧ GoodL Head.good x.heads
structure Pf where
  hz : Bool
  heads : List Head
  q : QcV
def Pf.good (x : Pf) : Prop := GoodL Head.good x.heads ∧ x.q.good
end Go.Proofs.YtjffolalgcmhaaaDoorG
namespace Go.Proofs.YtjffolalgcmhaaaDoorG
open Go Go.Proofs.YtjffolalgcmhaaaDoorRv Go.RowKit
set_option linter.unusedVariables false
set_option linter.unusedSimpArgs false

end Go.Proofs.YtjffolalgcmhaaaDoorG
namespace Go.Proofs.YtjffolalgcmhaaaDoorG
open Go Go.Proofs.YtjffolalgcmhaaaDoorRv Go.RowKit
set_option linter.unusedVariables false
set_option linter.unusedSimpArgs false


end Go.Proofs.YtjffolalgcmhaaaDoorG
namespace Go.Proofs.YtjffolalgcmhaaaDoorG
open Go Go.Proofs.YtjffolalgcmhaaaDoorRv Go.RowKit
set_option linter.unusedVariables false
set_option linter.unusedSimpArgs false

end Go.Proofs.YtjffolalgcmhaaaDoorG
namespace Go.Proofs.YtjffolalgcmhaaaDoorG
open Go Go.Proofs.YtjffolalgcmhaaaDoorRv Go.RowKit
set_option linter.unusedVariables false
set_option linter.unusedSimpArgs false

end Go.Proofs.YtjffolalgcmhaaaDoorG
namespace Go.Proofs.YtjffolalgcmhaaaDoorG
open Go Go.Proofs.YtjffolalgcmhaaaDoorRv Go.RowKit
set_option linter.unusedVariables false
set_option linter.unusedSimpArgs false

def FitE (l : List En) : Prop := l.length ≤ 9223372036854775807 ∧ ∀ r ∈ l, r.tag.length ≤ 9223372036854775807
def FewE (l : List En) : Prop := l.length ≤ 1048576 ∧ ∀ r ∈ l, okB r.tag
theorem fewE_cp {l : List En} (h : FewE l) : FewE (l.map En.cp) := ⟨by simpa using h.1, fun x hx => by
  obtain ⟨q, hq, rfl⟩ := List.mem_map.1 hx
  exact h.2 q hq⟩
theorem fitE_of {l : List En} (h : GoodL En.good l) : FitE l := ⟨h.1, fun x hx => (h.2 x hx).2.2.1⟩
theorem laws_szEntryS.ev0 (z : Bool) (l : List En) (hl : l.length ≤ 1048576) (h : ∀ r ∈ l, r.tag.length ≤ 9223372036854775807) : ∀ (d n : Nat) (a : Int), n + d = l.length → 0 ≤ a → a ≤ 1048576 → ∃ q, Ev (fun k => laws_szEntryS.l0 k z (l.map En.t) a (n : Int)) q ∧ SzR (∀ r ∈ l.drop n, okB r.tag) a q
  | 0, n, a, hn, h0, h1 => by
    refine ⟨a, ev_step ?_, Or.inr ⟨h0, by omega, fun r hr => ?_⟩⟩
    · simp only [laws_szEntryS.l0, laws_szEntryS.l0b, List.length_map]
      exact ev_neg (by omega) (ev_some rfl)
    · rw [List.drop_of_length_le (by omega)] at hr; cases hr
  | d + 1, n, a, hn, h0, h1 => by
    have hlt : n < l.length := by omega
    obtain ⟨q, e, s⟩ := laws_szEntry.ev l[n].who l[n].high l[n].tz l[n].tag (h _ (List.getElem_mem hlt)) a h0 h1
    rcases s with rfl | ⟨s1, s2, s3⟩
    · refine ⟨-1, ev_step ?_, Or.inl rfl⟩
      simp only [laws_szEntryS.l0, laws_szEntryS.l0b, List.length_map, Int.toNat_natCast, en_at hlt, En.c0, En.c1, En.c2, En.c2z]
      exact ev_pos (by omega) (ev_pos (by omega) (ev_pos (by omega) (Ev.bind e (ev_pos (by omega) (ev_some rfl)))))
    · obtain ⟨p, e2, s'⟩ := laws_szEntryS.ev0 z l hl h d (n + 1) q (by omega) s1 (by omega)
      refine ⟨p, ev_step ?_, ?_⟩
      · simp only [laws_szEntryS.l0, laws_szEntryS.l0b, List.length_map, Int.toNat_natCast, en_at hlt, En.c0, En.c1, En.c2, En.c2z, succ_nat n (by omega)]
        exact ev_pos (by omega) (ev_pos (by omega) (ev_pos (by omega) (Ev.bind e (ev_neg (by omega) e2))))
      · rcases s' with rfl | ⟨t1, t2, t3⟩
        · exact Or.inl rfl
        · refine Or.inr ⟨t1, by omega, fun r hr => ?_⟩
          rw [List.drop_eq_getElem_cons hlt] at hr
          rcases List.mem_cons.1 hr with rfl | hr
          · exact s3
          · exact t3 r hr
theorem laws_szEntryS.ev (z : Bool) (l : List En) (h : FitE l) (a : Int) (h0 : 0 ≤ a) (h1 : a ≤ 1048576) : ∃ q, Ev (fun k => laws_szEntryS.f k z (l.map En.t) a) q ∧ SzR (FewE l) a q := by
  have hl := h.1
  have e : wrap64 (a - (l.length : Int)) = a - (l.length : Int) := w64 (by omega) (by omega)
  by_cases c : (l.length : Int) ≤ a
  · obtain ⟨q, e2, s⟩ := laws_szEntryS.ev0 z l (by clear e; omega) h.2 l.length 0 (a - l.length) (by omega) (by clear e; omega) (by clear e; omega)
    refine ⟨q, ev_step ?_, ?_⟩
    · simp only [laws_szEntryS.f, laws_szEntryS.b, List.length_map, e]
      clear e
      exact ev_neg (by omega) e2
    · clear e
      rcases s with rfl | ⟨t1, t2, t3⟩
      · exact Or.inl rfl
      · exact Or.inr ⟨t1, by omega, by omega, t3⟩
  · refine ⟨-1, ev_step ?_, Or.inl rfl⟩
    simp only [laws_szEntryS.f, laws_szEntryS.b, List.length_map, e]
    clear e
    exact ev_pos (by omega) (ev_some rfl)
theorem laws_toEntryS.ev (z : Bool) (l : List En) (h : FewE l) : Ev (fun k => laws_toEntryS.f k z (l.map En.t)) (false, (l.map En.cp).map En.t) := by
  have hl : l.length ≤ 1048576 := h.1
  refine ev_step ?_
  simp only [laws_toEntryS.f, laws_toEntryS.b, List.length_map]
  refine ev_pos trivial (ev_pos (by omega) (ev_pos (by omega) ?_))
  have key : ∀ (d n : Nat) (ys : List T), n + d = l.length → ys.length = l.length → ys.take n = ((l.map En.cp).map En.t).take n → Ev (fun k => laws_toEntryS.l0 k z (l.map En.t) ys (n : Int)) (false, (l.map En.cp).map En.t) := by
    intro d
    induction d with
    | zero =>
      intro n ys hn hy ht
      refine ev_step ?_
      simp only [laws_toEntryS.l0, laws_toEntryS.l0b, List.length_map]
      refine ev_neg (by omega) (ev_some ?_)
      rw [List.take_of_length_le (by omega), List.take_of_length_le (by simp; omega)] at ht
      rw [ht]
    | succ d ih =>
      intro n ys hn hy ht
      have hlt : n < l.length := by omega
      refine ev_step ?_
      have i2 := ih (n + 1) (ys.set n (l[n].cp).t) (by omega) (by simp [hy]) (by
        rw [List.take_succ_eq_append_getElem (by simp; omega), List.take_succ_eq_append_getElem (by simp; omega), List.take_set_of_le (Nat.le_refl n), ht, List.getElem_set_self]
        simp)
      simp only [laws_toEntryS.l0, laws_toEntryS.l0b, List.length_map, succ_nat n (by omega), Int.toNat_natCast, en_at hlt, En.c0, En.c1, En.c2, En.c2z]
      exact ev_pos (by omega) (ev_pos (by omega) (ev_pos (by omega) (Ev.bind (laws_toEntry.ev l[n].who l[n].high l[n].tz l[n].tag (h.2 _ (List.getElem_mem hlt))) (ev_pos (by omega) (ev_pos (by omega) i2)))))
  exact key l.length 0 _ (by omega) (by simp) (by simp)
theorem laws_eqEntryS.ev (y z : Bool) (l : List En) (h : FewE l) : Ev (fun k => laws_eqEntryS.f k y (l.map En.t) z (l.map En.t)) true := by
  have hl : l.length ≤ 1048576 := h.1
  refine ev_step ?_
  simp only [laws_eqEntryS.f, laws_eqEntryS.b]
  refine ev_neg (by simp) ?_
  have key : ∀ (d n : Nat), n + d = l.length → Ev (fun k => laws_eqEntryS.l0 k y (l.map En.t) z (l.map En.t) (n : Int)) true := by
    intro d
    induction d with
    | zero =>
      intro n hn
      refine ev_step ?_
      simp only [laws_eqEntryS.l0, laws_eqEntryS.l0b, List.length_map]
      exact ev_neg (by omega) (ev_some rfl)
    | succ d ih =>
      intro n hn
      have hlt : n < l.length := by omega
      refine ev_step ?_
      simp only [laws_eqEntryS.l0, laws_eqEntryS.l0b, List.length_map, Int.toNat_natCast, en_at hlt, En.c0, En.c1, En.c2, En.c2z, succ_nat n (by omega)]
      exact ev_pos (by omega) (ev_pos (by omega) (ev_pos (by omega) (ev_pos (by omega) (ev_pos (by omega) (Ev.bind (laws_eqEntry.ev l[n].who l[n].high l[n].tz l[n].tz l[n].tag (h.2 _ (List.getElem_mem hlt))) (ev_neg (by simp) (ih (n + 1) (by omega))))))))
  exact key l.length 0 (by omega)
theorem laws_szTc.ev (v : Int) (z : Bool) (l : List En) (h : FitE l) (a : Int) (h0 : 0 ≤ a) (h1 : a ≤ 1048576) : ∃ q, Ev (fun k => laws_szTc.f k v z (l.map En.t) a) q ∧ SzR (FewE l) a q := by
  obtain ⟨q, e, s⟩ := laws_szEntryS.ev z l h a h0 h1
  rcases s with rfl | ⟨s1, s2, s3⟩
  · refine ⟨-1, ev_step ?_, Or.inl rfl⟩
    simp only [laws_szTc.f, laws_szTc.b]
    exact Ev.bind e (ev_pos (by omega) (ev_some rfl))
  · refine ⟨q, ev_step ?_, Or.inr ⟨s1, s2, s3⟩⟩
    simp only [laws_szTc.f, laws_szTc.b]
    exact Ev.bind e (ev_neg (by omega) (ev_some rfl))
theorem laws_toTc.ev (v : Int) (z : Bool) (l : List En) (h : FewE l) : Ev (fun k => laws_toTc.f k v z (l.map En.t)) (v, false, (l.map En.cp).map En.t) := by
  refine ev_step ?_
  simp only [laws_toTc.f, laws_toTc.b]
  exact Ev.bind (laws_toEntryS.ev z l h) (ev_some rfl)
theorem laws_eqTc.ev (v : Int) (y z : Bool) (l : List En) (h : FewE l) : Ev (fun k => laws_eqTc.f k v y (l.map En.t) v z (l.map En.t)) true := by
  refine ev_step ?_
  simp only [laws_eqTc.f, laws_eqTc.b]
  exact ev_neg (by simp) (Ev.bind (laws_eqEntryS.ev y z l h) (ev_neg (by simp) (ev_some rfl)))


end Go.Proofs.YtjffolalgcmhaaaDoorG
namespace Go.Proofs.YtjffolalgcmhaaaDoorG
open Go Go.Proofs.YtjffolalgcmhaaaDoorRv Go.RowKit
set_option linter.unusedVariables false
set_option linter.unusedSimpArgs false

end Go.Proofs.YtjffolalgcmhaaaDoorG
namespace Go.Proofs.YtjffolalgcmhaaaDoorG
open Go Go.Proofs.YtjffolalgcmhaaaDoorRv Go.RowKit
set_option linter.unusedVariables false
set_option linter.unusedSimpArgs false

structure QcK (q : QcV) : Prop where
  v : isNum q.v = true
  h : isNum q.h = true
  blk : q.blk.length = 32
  bits : q.bits.length ≤ 2
  cnt : q.tags.length ≤ 16
  tags : ∀ b ∈ q.tags, b.l.length = 32
structure HeadK (x : Head) : Prop where
  v : isNum x.v = true
  h : isNum x.h = true
  p : isNum x.p = true
  par : x.par.length = 32
  root : x.root.length = 32
  q : QcK x.q
end Go.Proofs.YtjffolalgcmhaaaDoorG
namespace Go.Proofs.YtjffolalgcmhaaaDoorG
open Go Go.Proofs.YtjffolalgcmhaaaDoorRv Go.RowKit
set_option linter.unusedVariables false
set_option linter.unusedSimpArgs false


def str (l : List UInt8) : ByteArray := ⟨l.toArray⟩
theorem str_app (a b : List UInt8) : str a ++ str b = str (a ++ b) := by
  unfold str
  rw [ByteArray.mk_append_mk]

theorem str_sz (l : List UInt8) : (str l).size = l.length := by simp [str, ByteArray.size]
theorem lit_sz (l : List UInt8) : (ByteArray.mk (List.toArray l)).size = l.length := by simp [ByteArray.size]
theorem digits_le : ∀ (d u : Nat), u < 10 ^ (d + 1) → (Lib.decDigits u).length ≤ d + 1
  | 0, u, h => by rw [Lib.decDigits, dif_pos (by simpa using h)]; simp
  | d + 1, u, h => by
    by_cases c : u < 10
    · rw [Lib.decDigits, dif_pos c]; simp
    · rw [Lib.decDigits, dif_neg c]
      have e : 10 ^ (d + 1 + 1) = 10 ^ (d + 1) * 10 := Nat.pow_succ 10 (d + 1)
      have := digits_le d (u / 10) (by omega)
      simp only [List.length_append, List.length_cons, List.length_nil]
      omega
def numT (n : Int) : ByteArray := if isNum n = true then itoaB n else ⟨#[]⟩
theorem itoa_pos {n : Int} (h : 0 ≤ n) : itoaB n = str (Lib.decDigits n.toNat) := by
  unfold itoaB Lib.itoa str
  rw [if_neg (by omega)]
theorem numT_sz (n : Int) : (numT n).size ≤ 20 := by
  unfold numT
  split
  · rename_i h
    have h := isNum_iff.1 h
    rw [itoa_pos h.1, str_sz]
    exact Nat.le_trans (digits_le 18 n.toNat (by omega)) (by decide)
  · simp [ByteArray.size]
theorem strconv_Itoa.ev {n : Int} (h : isNum n = true) : Ev (fun k => strconv_Itoa.f k n) (itoaB n) := by
  have h := isNum_iff.1 h
  simp only [strconv_Itoa.f]
  exact ev_pos (by unfold inI; exact decide_eq_true ⟨by omega, by omega⟩) (ev_some rfl)
theorem impl_NumText.ev (n : Int) : Ev (fun k => impl_NumText.f k n) (numT n) := by
  refine ev_step ?_
  simp only [impl_NumText.f, impl_NumText.b]
  unfold numT
  refine Ev.bind (impl_isNum.ev n) (ev_ite (fun q => ev_some ?_) (fun q => ?_))
  · rw [if_neg q]
  · have q : isNum n = true := by simpa using q
    rw [if_pos q]
    exact Ev.bind (strconv_Itoa.ev q) (ev_some rfl)
theorem digit_str {u : Nat} (h : u < 10) : strOf [(wrap64 ((48 : Int) + (u : Int))) % 256] = str [UInt8.ofNat (48 + u)] := by
  have : (wrap64 ((48 : Int) + (u : Int)) % 256).toNat = 48 + u := by unfold wrap64; omega
  simp [strOf, str, this]
theorem spec_NumText.ev0 : ∀ (d u : Nat) (s : List UInt8), u < 10 ^ (d + 1) → d ≤ 18 → s.length + d ≤ 30 → Ev (fun k => spec_NumText.l0 k (u : Int) (str s)) (str (Lib.decDigits u ++ s))
  | d, u, s, h, hd, hs => by
    have h18 : 10 ^ (d + 1) ≤ 10 ^ 19 := Nat.pow_le_pow_right (by decide) (by omega)
    refine ev_step ?_
    simp only [spec_NumText.l0, spec_NumText.l0b]
    by_cases c : u < 10
    · rw [digit_str c]
      refine ev_neg (by omega) (ev_pos (by rw [str_sz, str_sz]; simp; omega) (ev_some ?_))
      rw [str_app, Lib.decDigits, dif_pos c]
    · have e1 : Int.tmod (u : Int) 10 = ((u % 10 : Nat) : Int) := by rw [Int.tmod_eq_emod_of_nonneg (by omega)]; omega
      have e2 : wrap64 (Int.tdiv (u : Int) 10) = ((u / 10 : Nat) : Int) := by rw [Int.tdiv_eq_ediv_of_nonneg (by omega), w64 (by omega) (by omega)]; omega
      rw [e1, e2, digit_str (u := u % 10) (by omega)]
      cases d with
      | zero => simp at h; omega
      | succ d =>
        have e : 10 ^ (d + 1 + 1) = 10 ^ (d + 1) * 10 := Nat.pow_succ 10 (d + 1)
        have ih := spec_NumText.ev0 d (u / 10) (UInt8.ofNat (48 + u % 10) :: s) (by omega) (by omega) (by simp; omega)
        refine ev_pos (by omega) (ev_pos (by rw [str_sz, str_sz]; simp; omega) ?_)
        rw [str_app]
        refine ev_to ih ?_
        rw [Lib.decDigits.eq_def u, dif_neg c]
        simp
theorem spec_NumText.ev (n : Int) : Ev (fun k => spec_NumText.f k n) (numT n) := by
  refine ev_step ?_
  simp only [spec_NumText.f, spec_NumText.b]
  unfold numT
  refine Ev.bind (spec_l01Num.ev n) (ev_ite (fun q => ev_some ?_) (fun q => ?_))
  · rw [if_neg q]
  · have q : isNum n = true := by simpa using q
    rw [if_pos q]
    have h := isNum_iff.1 q
    have := spec_NumText.ev0 18 n.toNat [] (by omega) (by omega) (by simp)
    rw [List.append_nil, show ((n.toNat : Nat) : Int) = n by omega] at this
    rw [itoa_pos h.1]
    exact this
end Go.Proofs.YtjffolalgcmhaaaDoorG
namespace Go.Proofs.YtjffolalgcmhaaaDoorG
open Go Go.Proofs.YtjffolalgcmhaaaDoorRv Go.RowKit
set_option linter.unusedVariables false
set_option linter.unusedSimpArgs false
structure Blk where
  hd : Head
  tz : Bool
  txs : List By
def Blk.good (x : Blk) : Prop := Head.good x.hd ∧ GoodL By.good x.txs
def Blk.cp (x : Blk) : Blk := ⟨x.hd.cp, false, x.txs.map By.cp⟩
structure Sd where
  k : Int
  n : Int
def Sd.good (x : Sd) : Prop := goodI x.k ∧ goodI x.n
structure Inc where
  h : Int
  n : Int
  at_ : Int
  xz : Bool
  tx : List Int
  pz : Bool
  path : List By
def Inc.good (x : Inc) : Prop := goodI x.h ∧ goodI x.n ∧ goodI x.at_ ∧ By.good ⟨x.xz, x.tx⟩ ∧ GoodL By.good x.path
def Inc.cp (x : Inc) : Inc := ⟨x.h, x.n, x.at_, false, x.tx, false, x.path.map By.cp⟩
theorem app_nil (s : ByteArray) : s ++ (⟨#[]⟩ : ByteArray) = s := ByteArray.append_empty
theorem nil_app (s : ByteArray) : (⟨#[]⟩ : ByteArray) ++ s = s := ByteArray.empty_append
end Go.Proofs.YtjffolalgcmhaaaDoorG
namespace Go.Proofs.YtjffolalgcmhaaaDoorG
open Go Go.Proofs.YtjffolalgcmhaaaDoorRv Go.RowKit
set_option linter.unusedVariables false
set_option linter.unusedSimpArgs false

theorem comma_sz : (⟨#[44]⟩ : ByteArray).size = 1 := rfl
def tailA (by_ : ByteArray) : List ByteArray → ByteArray
  | [] => ⟨#[]⟩
  | x :: r => by_ ++ x ++ tailA by_ r
def joinA (by_ : ByteArray) : List ByteArray → ByteArray
  | [] => ⟨#[]⟩
  | x :: r => x ++ tailA by_ r
theorem tailA_sz {by_ : ByteArray} {P : Nat} : ∀ {l : List ByteArray}, (∀ x ∈ l, x.size ≤ P) → (tailA by_ l).size ≤ l.length * (by_.size + P)
  | [], _ => by rw [tailA, lit_sz]; simp
  | x :: r, h => by
    have h1 := h x (by simp)
    have h2 := tailA_sz (by_ := by_) (l := r) fun y hy => h y (by simp [hy])
    unfold tailA
    simp only [ByteArray.size_append, List.length_cons, Nat.add_mul, Nat.one_mul]
    omega
theorem joinA_sz {by_ : ByteArray} {P : Nat} {l : List ByteArray} (h : ∀ x ∈ l, x.size ≤ P) : (joinA by_ l).size ≤ l.length * (by_.size + P) := by
  cases l with
  | nil => rw [joinA, lit_sz]; simp
  | cons x r =>
    have h1 := h x (by simp)
    have h2 := tailA_sz (by_ := by_) (l := r) fun y hy => h y (by simp [hy])
    unfold joinA
    simp only [ByteArray.size_append, List.length_cons, Nat.add_mul, Nat.one_mul]
    omega
theorem arr_ext {a b : ByteArray} (h : a.data.toList = b.data.toList) : a = b := by
  cases a
  cases b
  simpa using h
theorem data_app (a b : ByteArray) : (a ++ b).data.toList = a.data.toList ++ b.data.toList := by
  cases a
  cases b
  rw [ByteArray.mk_append_mk]
  first | done | simp
theorem tailA_data (by_ : ByteArray) : ∀ l : List ByteArray, (tailA by_ l).data.toList = Lib.joinTail by_.data.toList (l.map (·.data.toList))
  | [] => by simp [tailA, Lib.joinTail]
  | x :: r => by
    have ih := tailA_data by_ r
    unfold tailA
    rw [data_app, data_app, ih]
    simp [Lib.joinTail]
theorem strs_map (l : List ByteArray) : strsOf (l.map T.str) = l := by simp [strsOf, T.toStr, Function.comp_def]
theorem joinB_eq (by_ : ByteArray) (l : List ByteArray) : joinB (l.map T.str) by_ = joinA by_ l := by
  unfold joinB
  rw [strs_map]
  refine arr_ext ?_
  cases l with
  | nil => simp [joinA, Lib.join_nil]
  | cons x r =>
    unfold joinA
    rw [data_app, tailA_data, List.map_cons, Lib.join_cons]
theorem strings_Join.ev (z : Bool) (l : List ByteArray) (by_ : ByteArray) {P : Nat} (h : ∀ x ∈ l, x.size ≤ P) (hl : l.length ≤ 140737488355328) (hs : l.length * (by_.size + P) ≤ 140737488355328) : Ev (fun k => strings_Join.f k z (l.map T.str) by_) (joinA by_ l) := by
  simp only [strings_Join.f]
  refine ev_pos ?_ (ev_some (joinB_eq by_ l))
  unfold joinOk
  have := joinA_sz (by_ := by_) h
  rw [joinB_eq]
  simp only [Bool.and_eq_true, decide_eq_true_eq, List.length_map]
  exact ⟨⟨by simp [isStr], hl⟩, by omega⟩
theorem strA_at {l : List ByteArray} {i : Nat} (h : i < l.length) : ((((l.map T.str).getD i .bad).cells.getD 0 .bad)).toStr = l[i] := by
  simp [List.getD_eq_getElem?_getD, h, T.cells, T.toStr]
theorem spec_l29Join.ev0 (by_ : ByteArray) (z : Bool) (l : List ByteArray) (hl : l.length ≤ 140737488355328) : ∀ (d n : Nat) (s : ByteArray), 1 ≤ n → n + d = l.length → s.size + (tailA by_ (l.drop n)).size ≤ 140737488355328 → Ev (fun k => spec_l29Join.l0 k by_ s z (l.map T.str) (l.length : Int) (n : Int)) (s ++ tailA by_ (l.drop n)) := by
  intro d
  induction d with
  | zero =>
    intro n s h1 hn hs
    refine ev_step ?_
    simp only [spec_l29Join.l0, spec_l29Join.l0b]
    refine ev_neg (by omega) (ev_some ?_)
    rw [List.drop_of_length_le (by omega), tailA, app_nil]
  | succ d ih =>
    intro n s h1 hn hs
    have hlt : n < l.length := by omega
    rw [List.drop_eq_getElem_cons hlt, tailA] at hs ⊢
    simp only [ByteArray.size_append] at hs
    have i2 := ih (n + 1) (s ++ by_ ++ l[n]) (by omega) (by omega) (by simp only [ByteArray.size_append]; omega)
    refine ev_step ?_
    simp only [spec_l29Join.l0, spec_l29Join.l0b, List.length_map, Int.toNat_natCast, strA_at hlt, w64s (n := n) (by omega)]
    refine ev_pos (by omega) (ev_pos (by omega) (ev_pos (by omega) (ev_pos (by omega) (ev_pos (by omega) (ev_pos (by simp only [ByteArray.size_append]; omega) (ev_to i2 ?_))))))
    simp only [ByteArray.append_assoc]
theorem spec_l29Join.ev (z : Bool) (l : List ByteArray) (by_ : ByteArray) {P : Nat} (h : ∀ x ∈ l, x.size ≤ P) (hl : l.length ≤ 140737488355328) (hs : l.length * (by_.size + P) ≤ 140737488355328) : Ev (fun k => spec_l29Join.f k z (l.map T.str) by_) (joinA by_ l) := by
  have hj := joinA_sz (by_ := by_) h
  refine ev_step ?_
  simp only [spec_l29Join.f, spec_l29Join.b, List.length_map]
  cases l with
  | nil =>
    refine ev_step ?_
    simp only [spec_l29Join.l0, spec_l29Join.l0b, List.length_nil]
    exact ev_neg (by omega) (ev_some rfl)
  | cons x r =>
    unfold joinA at hj ⊢
    simp only [ByteArray.size_append] at hj
    have i2 := spec_l29Join.ev0 by_ z (x :: r) hl r.length 1 x (by omega) (by simp; omega) (by simp only [List.drop_succ_cons, List.drop_zero]; omega)
    refine ev_step ?_
    have e : ((((List.map T.str (x :: r)).getD (0 : Int).toNat T.bad).cells.getD 0 T.bad)).toStr = x := rfl
    have e2 : wrap64 ((0 : Int) + 1) = ((1 : Nat) : Int) := by unfold wrap64; omega
    simp only [spec_l29Join.l0, spec_l29Join.l0b, List.length_map, List.length_cons, e, e2]
    refine ev_pos (by omega) (ev_pos (by omega) (ev_pos (by omega) (ev_neg (by omega) (ev_pos (by rw [lit_sz]; simp only [List.length_nil]; omega) (ev_to ?_ rfl)))))
    rw [nil_app]
    simpa using i2
def listT (l : List ByteArray) : ByteArray := if l = [] then (⟨#[45]⟩ : ByteArray) else joinA (⟨#[44]⟩ : ByteArray) l
theorem listT_sz {P : Nat} {l : List ByteArray} (h : ∀ x ∈ l, x.size ≤ P) : (listT l).size ≤ l.length * (1 + P) + 1 := by
  unfold listT
  split
  · rw [lit_sz]; simp
  · have := joinA_sz (by_ := (⟨#[44]⟩ : ByteArray)) h
    rw [comma_sz] at this
    omega
theorem impl_orDash.ev (z : Bool) (l : List ByteArray) {P : Nat} (h : ∀ x ∈ l, x.size ≤ P) (hl : l.length ≤ 140737488355328) (hs : l.length * (1 + P) ≤ 140737488355328) : Ev (fun k => impl_orDash.f k z (l.map T.str)) (listT l) := by
  refine ev_step ?_
  simp only [impl_orDash.f, impl_orDash.b, List.length_map]
  unfold listT
  refine ev_ite (fun q => ev_some ?_) (fun q => Ev.bind (strings_Join.ev z l _ h hl (by rw [comma_sz]; exact hs)) (ev_some ?_))
  · rw [if_pos (List.length_eq_zero_iff.1 (by omega))]
  · rw [if_neg fun e => q (by rw [e]; rfl)]


def entT (e : En) : ByteArray := numT e.who ++ (⟨#[58]⟩ : ByteArray) ++ numT e.high
theorem entT_sz (e : En) : (entT e).size ≤ 41 := by
  have := numT_sz e.who
  have := numT_sz e.high
  unfold entT
  simp only [ByteArray.size_append, lit_sz, List.length_cons, List.length_nil]
  omega
def tcT (v : Int) (l : List En) : ByteArray := (⟨#[116, 99, 32]⟩ : ByteArray) ++ numT v ++ (⟨#[32]⟩ : ByteArray) ++ listT (l.map entT)
theorem ents_sz (l : List En) : ∀ x ∈ l.map entT, x.size ≤ 41 := fun x hx => by
  obtain ⟨e, _, rfl⟩ := List.mem_map.1 hx
  exact entT_sz e
theorem map_app {α : Type} (f : α → ByteArray) (l : List α) (n : Nat) (h : n < l.length) : ((l.take n).map f).map T.str ++ [T.str (f l[n])] = ((l.take (n + 1)).map f).map T.str := by
  rw [List.take_succ_eq_append_getElem h, List.map_append, List.map_append]
  rfl
theorem impl_TcText.ev0 (v : Int) (z y : Bool) (l : List En) (hl : l.length ≤ 1048576) : ∀ (d n : Nat), n + d = l.length → Ev (fun k => impl_TcText.l0 k (((l.take n).map entT).map T.str) z (l.map En.t) (l.length : Int) (n : Int) v y (l.map En.t)) (tcT v l) := by
  intro d
  induction d with
  | zero =>
    intro n hn
    have h1 := numT_sz v
    have h2 := listT_sz (ents_sz l)
    rw [List.length_map] at h2
    refine ev_step ?_
    simp only [impl_TcText.l0, impl_TcText.l0b]
    rw [List.take_of_length_le (by omega)]
    refine ev_neg (by omega) (Ev.bind (impl_NumText.ev v) (ev_pos ?_ (ev_pos ?_ (Ev.bind (impl_orDash.ev false (l.map entT) (ents_sz l) (by simp; omega) (by simp; omega)) (ev_pos ?_ (ev_some rfl)))))) <;> (simp only [ByteArray.size_append, lit_sz, List.length_cons, List.length_nil]; omega)
  | succ d ih =>
    intro n hn
    have hlt : n < l.length := by omega
    have h1 := numT_sz l[n].who
    have h2 := numT_sz l[n].high
    have i2 := ih (n + 1) (by omega)
    rw [← map_app entT l n hlt] at i2
    have hln : (((l.take n).map entT).map T.str).length = n := by simp; omega
    refine ev_step ?_
    simp only [impl_TcText.l0, impl_TcText.l0b, List.length_map, Int.toNat_natCast, en_at hlt, En.c0, En.c1, succ_nat n (by omega)]
    refine ev_pos (by omega) (ev_pos (by omega) (ev_pos (by omega) (Ev.bind (impl_NumText.ev _) (ev_pos ?_ (Ev.bind (impl_NumText.ev _) (ev_pos ?_ (ev_pos ?_ i2))))))) <;> first | (simp only [ByteArray.size_append, lit_sz, List.length_cons, List.length_nil]; omega) | (simp; omega)
theorem impl_TcText.ev (v : Int) (z : Bool) (l : List En) (hl : l.length ≤ 1048576) : Ev (fun k => impl_TcText.f k v z (l.map En.t)) (tcT v l) := by
  refine ev_step ?_
  simp only [impl_TcText.f, impl_TcText.b, List.length_map]
  exact impl_TcText.ev0 v z z l hl l.length 0 (by omega)
theorem spec_TcText.ev0 (v : Int) (z y : Bool) (l : List En) (hl : l.length ≤ 1048576) : ∀ (d n : Nat), n + d = l.length → Ev (fun k => spec_TcText.l0 k (((l.take n).map entT).map T.str) z (l.map En.t) (l.length : Int) (n : Int) v y (l.map En.t)) (tcT v l) := by
  intro d
  induction d with
  | zero =>
    intro n hn
    have h1 := numT_sz v
    have h2 := joinA_sz (by_ := (⟨#[44]⟩ : ByteArray)) (ents_sz l)
    rw [List.length_map, comma_sz] at h2
    have hln : ((l.map entT).map T.str).length = l.length := by simp
    refine ev_step ?_
    simp only [spec_TcText.l0, spec_TcText.l0b]
    rw [List.take_of_length_le (by omega)]
    refine ev_neg (by omega) (ev_ite (fun q => ?_) (fun q => ?_))
    · have : l = [] := List.length_eq_zero_iff.1 (by omega)
      subst this
      refine Ev.bind (spec_NumText.ev v) (ev_pos ?_ (ev_pos ?_ (ev_some ?_)))
      · simp only [ByteArray.size_append, lit_sz, List.length_cons, List.length_nil]; omega
      · simp only [ByteArray.size_append, lit_sz, List.length_cons, List.length_nil]; omega
      · unfold tcT
        show _ = _ ++ (⟨#[45]⟩ : ByteArray)
        rw [ByteArray.append_assoc (b := (⟨#[32]⟩ : ByteArray)), ByteArray.mk_append_mk]
        rfl
    · refine Ev.bind (spec_NumText.ev v) (ev_pos ?_ (ev_pos ?_ (Ev.bind (spec_l29Join.ev false (l.map entT) _ (ents_sz l) (by simp; omega) (by rw [comma_sz]; simp; omega)) (ev_pos ?_ (ev_some ?_)))))
      · simp only [ByteArray.size_append, lit_sz, List.length_cons, List.length_nil]; omega
      · simp only [ByteArray.size_append, lit_sz, List.length_cons, List.length_nil]; omega
      · simp only [ByteArray.size_append, lit_sz, List.length_cons, List.length_nil]; omega
      · unfold tcT listT
        rw [if_neg fun e => q (by rw [e]; rfl)]
  | succ d ih =>
    intro n hn
    have hlt : n < l.length := by omega
    have h1 := numT_sz l[n].who
    have h2 := numT_sz l[n].high
    have i2 := ih (n + 1) (by omega)
    rw [← map_app entT l n hlt] at i2
    refine ev_step ?_
    simp only [spec_TcText.l0, spec_TcText.l0b, List.length_map, Int.toNat_natCast, en_at hlt, En.c0, En.c1, succ_nat n (by omega)]
    refine ev_pos (by omega) (ev_pos (by omega) (ev_pos (by omega) (Ev.bind (spec_NumText.ev _) (ev_pos ?_ (Ev.bind (spec_NumText.ev _) (ev_pos ?_ (ev_pos ?_ i2))))))) <;> first | (simp only [ByteArray.size_append, lit_sz, List.length_cons, List.length_nil]; omega) | (simp; omega)
theorem spec_TcText.ev (v : Int) (z : Bool) (l : List En) (hl : l.length ≤ 1048576) : Ev (fun k => spec_TcText.f k v z (l.map En.t)) (tcT v l) := by
  refine ev_step ?_
  simp only [spec_TcText.f, spec_TcText.b, List.length_map]
  exact spec_TcText.ev0 v z z l hl l.length 0 (by omega)
theorem laws_FnExactTcText.top (x0 : TcV) (g0 : TcV.good x0) : Ev (fun k => laws_FnExactTcText.f k x0.v x0.ez (x0.ents.map En.t)) true := by
  refine ev_step ?_
  simp only [laws_FnExactTcText.f, laws_FnExactTcText.b]
  obtain ⟨r, e1, s⟩ := laws_szTc.ev x0.v x0.ez x0.ents (fitE_of g0.2) 1048576 (by omega) (by omega)
  rcases s with rfl | ⟨s1, s2, ok⟩
  · exact Ev.bind e1 (ev_pos (by omega) (ev_some rfl))
  have T := laws_toTc.ev x0.v x0.ez x0.ents ok
  have hl : (x0.ents.map En.cp).length ≤ 1048576 := by simpa using ok.1
  exact Ev.bind e1 (ev_neg (by omega) (Ev.bind T (Ev.bind (spec_TcText.ev x0.v false _ hl) (Ev.bind T (Ev.bind (impl_TcText.ev x0.v false _ hl) (ev_neg (by simp) (Ev.bind T (Ev.bind (laws_eqTc.ev x0.v _ _ _ (fewE_cp ok)) (ev_neg (by simp) (ev_some rfl))))))))))


end Go.Proofs.YtjffolalgcmhaaaDoorG
