/- What the printed forms answer, over numbers and lists alone. Each lemma names its conditions. -/
import Derived.Test.YtjffolalgcmhaaaDoorGFnExactProofTextb
import Derived.Lib.ItoaNum
namespace Go.Proofs.YtjffolalgcmhaaaDoorG
open Go Go.Proofs.YtjffolalgcmhaaaDoorRv Go.RowKit
set_option linter.unusedVariables false
set_option linter.unusedSimpArgs false


theorem impl_within.ev (a b c : Int) : Ev (fun k => impl_within.f k a b c) (decide (b ≤ a ∧ a ≤ c)) := by
  refine ev_step ?_
  simp only [impl_within.f, impl_within.b]
  exact ev_ite (fun h => ev_some (by simp [h])) (fun h => ev_some (by simp [h]))
theorem spec_l01In.ev (a b c : Int) : Ev (fun k => spec_l01In.f k a b c) (decide (b ≤ a ∧ a ≤ c)) := by
  refine ev_step ?_
  simp only [spec_l01In.f, spec_l01In.b]
  exact ev_ite (fun h => ev_some (by simp [show b ≤ a from h])) (fun h => ev_some (by simp [show ¬ b ≤ a from h]))
theorem impl_isNum.ev (a : Int) : Ev (fun k => impl_isNum.f k a) (isNum a) := by
  refine ev_step ?_
  simp only [impl_isNum.f, impl_isNum.b]
  exact Ev.bind (impl_within.ev _ _ _) (ev_some rfl)
theorem spec_l01Num.ev (a : Int) : Ev (fun k => spec_l01Num.f k a) (isNum a) := by
  refine ev_step ?_
  simp only [spec_l01Num.f, spec_l01Num.b]
  exact Ev.bind (spec_l01In.ev _ _ _) (ev_some rfl)


structure Row where
  f0 : Int
  z : Bool
  f1 : List Int
instance : Inhabited Row := ⟨⟨0, false, []⟩⟩
def Row.t (r : Row) : T := .agg [.int .i64 r.f0, .nums 5 .u8 r.z r.f1]
theorem Row.c0 (r : Row) : (r.t.cells.getD 0 .bad).toInt = r.f0 := rfl
theorem Row.c1 (r : Row) : (r.t.cells.getD 1 .bad).toNums = r.f1 := rfl

end Go.Proofs.YtjffolalgcmhaaaDoorG
namespace Go.Proofs.YtjffolalgcmhaaaDoorG
open Go Go.Proofs.YtjffolalgcmhaaaDoorRv Go.RowKit
set_option linter.unusedVariables false
set_option linter.unusedSimpArgs false


theorem rdI_nat {l : List Int} {n : Nat} (h : n < l.length) : rdI l (n : Int) = l[n] := by simp [rdI, h]
def bytesOk (b : List Int) : Prop := ∀ x ∈ b, 0 ≤ x ∧ x < 256

end Go.Proofs.YtjffolalgcmhaaaDoorG
namespace Go.Proofs.YtjffolalgcmhaaaDoorG
open Go Go.Proofs.YtjffolalgcmhaaaDoorRv Go.RowKit
set_option linter.unusedVariables false
set_option linter.unusedSimpArgs false

section
variable (y0 y1 y2 : Bool) (h b : List Int)



end
end Go.Proofs.YtjffolalgcmhaaaDoorG
namespace Go.Proofs.YtjffolalgcmhaaaDoorG
open Go Go.Proofs.YtjffolalgcmhaaaDoorRv Go.RowKit
set_option linter.unusedVariables false
set_option linter.unusedSimpArgs false


section
variable (z : Bool) (l : List Int)
end


theorem succ_nat (i : Nat) (h : i ≤ 1000000000) : wrap64 ((i : Int) + 1) = ((i + 1 : Nat) : Int) := by unfold wrap64; omega

end Go.Proofs.YtjffolalgcmhaaaDoorG
namespace Go.Proofs.YtjffolalgcmhaaaDoorG
open Go Go.Proofs.YtjffolalgcmhaaaDoorRv Go.RowKit
set_option linter.unusedVariables false
set_option linter.unusedSimpArgs false


def Row.ok (r : Row) : Prop := r.f1.length ≤ 1048576 ∧ bytesOk r.f1
def Rows (l : List Row) : Prop := l.length ≤ 1048576 ∧ ∀ r ∈ l, r.ok
theorem laws_szByteS.ev (z : Bool) (l : List Int) (h : l.length ≤ 9223372036854775807) (a : Int) (h0 : 0 ≤ a) (h1 : a ≤ 1048576) : ∃ r, Ev (fun k => laws_szByteS.f k z l a) r ∧ SzR (okB l) a r := by
  have e : wrap64 (a - (l.length : Int)) = a - (l.length : Int) := w64 (by omega) (by omega)
  by_cases c : (l.length : Int) ≤ a
  · refine ⟨a - l.length, ev_step ?_, Or.inr ⟨by omega, by omega, by unfold okB; omega⟩⟩
    simp only [laws_szByteS.f, laws_szByteS.b, e]
    clear e
    exact ev_neg (by omega) (ev_some rfl)
  · refine ⟨-1, ev_step ?_, Or.inl rfl⟩
    simp only [laws_szByteS.f, laws_szByteS.b, e]
    clear e
    exact ev_pos (by omega) (ev_some rfl)
def Row.fit (r : Row) : Prop := r.f1.length ≤ 9223372036854775807
def Fit (l : List Row) : Prop := l.length ≤ 9223372036854775807 ∧ ∀ r ∈ l, r.fit
def Few (l : List Row) : Prop := l.length ≤ 1048576 ∧ ∀ r ∈ l, okB r.f1

theorem laws_toByteS.ev (z : Bool) (l : List Int) (h : okB l) : Ev (fun k => laws_toByteS.f k z l) (false, l) := by
  have hl : l.length ≤ 1048576 := h
  refine ev_step ?_
  simp only [laws_toByteS.f, laws_toByteS.b]
  refine ev_pos trivial (ev_pos (by omega) (ev_pos (by omega) ?_))
  have key : ∀ (d n : Nat) (ys : List Int), n + d = l.length → ys.length = l.length → ys.take n = l.take n → Ev (fun k => laws_toByteS.l0 k z l ys (n : Int)) (false, l) := by
    intro d
    induction d with
    | zero =>
      intro n ys hn hy ht
      refine ev_step ?_
      simp only [laws_toByteS.l0, laws_toByteS.l0b]
      refine ev_neg (by omega) (ev_some ?_)
      obtain rfl : n = l.length := by omega
      rw [List.take_length, ← hy, List.take_length] at ht
      rw [ht]
    | succ d ih =>
      intro n ys hn hy ht
      have hlt : n < l.length := by omega
      refine ev_step ?_
      have i2 := ih (n + 1) (ys.set n l[n]) (by omega) (by simp [hy]) (by
        rw [List.take_succ_eq_append_getElem (by simp; omega), List.take_succ_eq_append_getElem hlt, List.take_set_of_le (Nat.le_refl n), ht, List.getElem_set_self])
      simp only [laws_toByteS.l0, laws_toByteS.l0b, rdI_nat hlt, succ_nat n (by omega), Int.toNat_natCast]
      exact ev_pos (by omega) (ev_pos (by omega) (ev_pos (by omega) (ev_pos (by omega) (ev_pos (by omega) i2))))
  exact key l.length 0 _ (by omega) (by simp) (by simp)
def Row.cp (r : Row) : Row := ⟨r.f0, false, r.f1⟩

theorem laws_eqByteS.ev (y z : Bool) (l : List Int) (h : okB l) : Ev (fun k => laws_eqByteS.f k y l z l) true := by
  have hl : l.length ≤ 1048576 := h
  refine ev_step ?_
  simp only [laws_eqByteS.f, laws_eqByteS.b]
  refine ev_neg (by simp) ?_
  have key : ∀ (d n : Nat), n + d = l.length → Ev (fun k => laws_eqByteS.l0 k y l z l (n : Int)) true := by
    intro d
    induction d with
    | zero =>
      intro n hn
      refine ev_step ?_
      simp only [laws_eqByteS.l0, laws_eqByteS.l0b]
      exact ev_neg (by omega) (ev_some rfl)
    | succ d ih =>
      intro n hn
      refine ev_step ?_
      simp only [laws_eqByteS.l0, laws_eqByteS.l0b, succ_nat n (by omega)]
      exact ev_pos (by omega) (ev_pos (by omega) (ev_pos (by omega) (ev_pos (by omega) (ev_pos (by omega) (ev_neg (by simp) (ih (n + 1) (by omega)))))))
  exact key l.length 0 (by omega)

theorem few_cp {l : List Row} (h : Few l) : Few (l.map Row.cp) := ⟨by simpa using h.1, fun r hr => by
  obtain ⟨x, hx, rfl⟩ := List.mem_map.1 hr
  exact h.2 x hx⟩
end Go.Proofs.YtjffolalgcmhaaaDoorG
namespace Go.Proofs.YtjffolalgcmhaaaDoorG
open Go Go.Proofs.YtjffolalgcmhaaaDoorRv Go.RowKit
set_option linter.unusedVariables false
set_option linter.unusedSimpArgs false

end Go.Proofs.YtjffolalgcmhaaaDoorG
namespace Go.Proofs.YtjffolalgcmhaaaDoorG
open Go Go.Proofs.YtjffolalgcmhaaaDoorRv Go.RowKit
set_option linter.unusedVariables false
set_option linter.unusedSimpArgs false

structure By where
  z : Bool
  l : List Int
instance : Inhabited By := ⟨⟨false, []⟩⟩
def By.t (b : By) : T := .nums 5 .u8 b.z b.l
def By.cp (b : By) : By := ⟨false, b.l⟩
theorem by_at {l : List By} {i : Nat} (h : i < l.length) : (l.map By.t).getD i .bad = (l[i]).t := by simp [List.getD_eq_getElem?_getD, h]
theorem By.c0z (b : By) : (b.t.cells.getD 0 .bad).isNil = b.z := rfl
theorem By.c0 (b : By) : (b.t.cells.getD 0 .bad).toNums = b.l := rfl
def FitB (l : List By) : Prop := l.length ≤ 9223372036854775807 ∧ ∀ b ∈ l, b.l.length ≤ 9223372036854775807
def FewB (l : List By) : Prop := l.length ≤ 1048576 ∧ ∀ b ∈ l, okB b.l
theorem fewB_cp {l : List By} (h : FewB l) : FewB (l.map By.cp) := ⟨by simpa using h.1, fun r hr => by
  obtain ⟨x, hx, rfl⟩ := List.mem_map.1 hr
  exact h.2 x hx⟩
theorem laws_szByteSS.ev0 (z : Bool) (l : List By) (hl : l.length ≤ 1048576) (h : ∀ b ∈ l, b.l.length ≤ 9223372036854775807) : ∀ (d n : Nat) (a : Int), n + d = l.length → 0 ≤ a → a ≤ 1048576 → ∃ q, Ev (fun k => laws_szByteSS.l0 k z (l.map By.t) a (n : Int)) q ∧ SzR (∀ r ∈ l.drop n, okB r.l) a q
  | 0, n, a, hn, h0, h1 => by
    refine ⟨a, ev_step ?_, Or.inr ⟨h0, by omega, fun r hr => ?_⟩⟩
    · simp only [laws_szByteSS.l0, laws_szByteSS.l0b, List.length_map]
      exact ev_neg (by omega) (ev_some rfl)
    · rw [List.drop_of_length_le (by omega)] at hr; cases hr
  | d + 1, n, a, hn, h0, h1 => by
    have hlt : n < l.length := by omega
    obtain ⟨q, e, s⟩ := laws_szByteS.ev l[n].z l[n].l (h _ (List.getElem_mem hlt)) a h0 h1
    rcases s with rfl | ⟨s1, s2, s3⟩
    · refine ⟨-1, ev_step ?_, Or.inl rfl⟩
      simp only [laws_szByteSS.l0, laws_szByteSS.l0b, List.length_map, Int.toNat_natCast, by_at hlt, By.c0, By.c0z]
      exact ev_pos (by omega) (ev_pos (by omega) (ev_pos (by omega) (Ev.bind e (ev_pos (by omega) (ev_some rfl)))))
    · obtain ⟨p, e2, s'⟩ := laws_szByteSS.ev0 z l hl h d (n + 1) q (by omega) s1 (by omega)
      refine ⟨p, ev_step ?_, ?_⟩
      · simp only [laws_szByteSS.l0, laws_szByteSS.l0b, List.length_map, Int.toNat_natCast, by_at hlt, By.c0, By.c0z, succ_nat n (by omega)]
        exact ev_pos (by omega) (ev_pos (by omega) (ev_pos (by omega) (Ev.bind e (ev_neg (by omega) e2))))
      · rcases s' with rfl | ⟨t1, t2, t3⟩
        · exact Or.inl rfl
        · refine Or.inr ⟨t1, by omega, fun r hr => ?_⟩
          rw [List.drop_eq_getElem_cons hlt] at hr
          rcases List.mem_cons.1 hr with rfl | hr
          · exact s3
          · exact t3 r hr
theorem laws_szByteSS.ev (z : Bool) (l : List By) (h : FitB l) (a : Int) (h0 : 0 ≤ a) (h1 : a ≤ 1048576) : ∃ q, Ev (fun k => laws_szByteSS.f k z (l.map By.t) a) q ∧ SzR (FewB l) a q := by
  have hl := h.1
  have e : wrap64 (a - (l.length : Int)) = a - (l.length : Int) := w64 (by omega) (by omega)
  by_cases c : (l.length : Int) ≤ a
  · obtain ⟨q, e2, s⟩ := laws_szByteSS.ev0 z l (by clear e; omega) h.2 l.length 0 (a - l.length) (by omega) (by clear e; omega) (by clear e; omega)
    refine ⟨q, ev_step ?_, ?_⟩
    · simp only [laws_szByteSS.f, laws_szByteSS.b, List.length_map, e]
      clear e
      exact ev_neg (by omega) e2
    · clear e
      rcases s with rfl | ⟨t1, t2, t3⟩
      · exact Or.inl rfl
      · exact Or.inr ⟨t1, by omega, by omega, t3⟩
  · refine ⟨-1, ev_step ?_, Or.inl rfl⟩
    simp only [laws_szByteSS.f, laws_szByteSS.b, List.length_map, e]
    clear e
    exact ev_pos (by omega) (ev_some rfl)
theorem laws_toByteSS.ev (z : Bool) (l : List By) (h : FewB l) : Ev (fun k => laws_toByteSS.f k z (l.map By.t)) (false, (l.map By.cp).map By.t) := by
  have hl : l.length ≤ 1048576 := h.1
  refine ev_step ?_
  simp only [laws_toByteSS.f, laws_toByteSS.b, List.length_map]
  refine ev_pos trivial (ev_pos (by omega) (ev_pos (by omega) ?_))
  have key : ∀ (d n : Nat) (ys : List T), n + d = l.length → ys.length = l.length → ys.take n = ((l.map By.cp).map By.t).take n → Ev (fun k => laws_toByteSS.l0 k z (l.map By.t) ys (n : Int)) (false, (l.map By.cp).map By.t) := by
    intro d
    induction d with
    | zero =>
      intro n ys hn hy ht
      refine ev_step ?_
      simp only [laws_toByteSS.l0, laws_toByteSS.l0b, List.length_map]
      refine ev_neg (by omega) (ev_some ?_)
      rw [List.take_of_length_le (by omega), List.take_of_length_le (by simp; omega)] at ht
      rw [ht]
    | succ d ih =>
      intro n ys hn hy ht
      have hlt : n < l.length := by omega
      refine ev_step ?_
      have i2 := ih (n + 1) (ys.set n (l[n].cp).t) (by omega) (by simp [hy]) (by
        rw [List.take_succ_eq_append_getElem (by simp; omega), List.take_succ_eq_append_getElem (by simp; omega), List.take_set_of_le (Nat.le_refl n), ht, List.getElem_set_self]
        simp)
      simp only [laws_toByteSS.l0, laws_toByteSS.l0b, List.length_map, succ_nat n (by omega), Int.toNat_natCast, by_at hlt, By.c0, By.c0z]
      exact ev_pos (by omega) (ev_pos (by omega) (ev_pos (by omega) (Ev.bind (laws_toByteS.ev l[n].z l[n].l (h.2 _ (List.getElem_mem hlt))) (ev_pos (by omega) (ev_pos (by omega) i2)))))
  exact key l.length 0 _ (by omega) (by simp) (by simp)
theorem laws_eqByteSS.ev (y z : Bool) (l : List By) (h : FewB l) : Ev (fun k => laws_eqByteSS.f k y (l.map By.t) z (l.map By.t)) true := by
  have hl : l.length ≤ 1048576 := h.1
  refine ev_step ?_
  simp only [laws_eqByteSS.f, laws_eqByteSS.b]
  refine ev_neg (by simp) ?_
  have key : ∀ (d n : Nat), n + d = l.length → Ev (fun k => laws_eqByteSS.l0 k y (l.map By.t) z (l.map By.t) (n : Int)) true := by
    intro d
    induction d with
    | zero =>
      intro n hn
      refine ev_step ?_
      simp only [laws_eqByteSS.l0, laws_eqByteSS.l0b, List.length_map]
      exact ev_neg (by omega) (ev_some rfl)
    | succ d ih =>
      intro n hn
      have hlt : n < l.length := by omega
      refine ev_step ?_
      simp only [laws_eqByteSS.l0, laws_eqByteSS.l0b, List.length_map, Int.toNat_natCast, by_at hlt, By.c0, By.c0z, succ_nat n (by omega)]
      exact ev_pos (by omega) (ev_pos (by omega) (ev_pos (by omega) (ev_pos (by omega) (ev_pos (by omega) (Ev.bind (laws_eqByteS.ev _ _ _ (h.2 _ (List.getElem_mem hlt))) (ev_neg (by simp) (ih (n + 1) (by omega))))))))
  exact key l.length 0 (by omega)
structure QcV where
  v : Int
  h : Int
  bz : Bool
  blk : List Int
  mz : Bool
  bits : List Int
  tz : Bool
  tags : List By
structure Head where
  v : Int
  h : Int
  p : Int
  az : Bool
  par : List Int
  rz : Bool
  root : List Int
  q : QcV
instance : Inhabited Head := ⟨⟨0, 0, 0, false, [], false, [], ⟨0, 0, false, [], false, [], false, []⟩⟩⟩
def Head.t (x : Head) : T := .agg [.int .i64 x.v, .int .i64 x.h, .int .i64 x.p, .nums 5 .u8 x.az x.par, .nums 5 .u8 x.rz x.root, .int .i64 x.q.v, .int .i64 x.q.h, .nums 5 .u8 x.q.bz x.q.blk, .nums 5 .u8 x.q.mz x.q.bits, .sl 28 x.q.tz (x.q.tags.map By.t)]
theorem head_at {l : List Head} {i : Nat} (h : i < l.length) : (l.map Head.t).getD i .bad = (l[i]).t := by simp [List.getD_eq_getElem?_getD, h]
section
variable (x : Head)
theorem Head.c0 : (x.t.cells.getD 0 .bad).toInt = x.v := rfl
theorem Head.c1 : (x.t.cells.getD 1 .bad).toInt = x.h := rfl
theorem Head.c2 : (x.t.cells.getD 2 .bad).toInt = x.p := rfl
theorem Head.c3z : (x.t.cells.getD 3 .bad).isNil = x.az := rfl
theorem Head.c3 : (x.t.cells.getD 3 .bad).toNums = x.par := rfl
theorem Head.c4z : (x.t.cells.getD 4 .bad).isNil = x.rz := rfl
theorem Head.c4 : (x.t.cells.getD 4 .bad).toNums = x.root := rfl
theorem Head.c5 : (x.t.cells.getD 5 .bad).toInt = x.q.v := rfl
theorem Head.c6 : (x.t.cells.getD 6 .bad).toInt = x.q.h := rfl
theorem Head.c7z : (x.t.cells.getD 7 .bad).isNil = x.q.bz := rfl
theorem Head.c7 : (x.t.cells.getD 7 .bad).toNums = x.q.blk := rfl
theorem Head.c8z : (x.t.cells.getD 8 .bad).isNil = x.q.mz := rfl
theorem Head.c8 : (x.t.cells.getD 8 .bad).toNums = x.q.bits := rfl
theorem Head.c9z : (x.t.cells.getD 9 .bad).isNil = x.q.tz := rfl
theorem Head.c9 : (x.t.cells.getD 9 .bad).toList = x.q.tags.map By.t := rfl
end
def QcV.cp (q : QcV) : QcV := ⟨q.v, q.h, false, q.blk, false, q.bits, false, q.tags.map By.cp⟩
def Head.cp (x : Head) : Head := ⟨x.v, x.h, x.p, false, x.par, false, x.root, x.q.cp⟩
def QcV.fit (q : QcV) : Prop := q.blk.length ≤ 9223372036854775807 ∧ q.bits.length ≤ 9223372036854775807 ∧ FitB q.tags
def QcV.few (q : QcV) : Prop := okB q.blk ∧ okB q.bits ∧ FewB q.tags
def Head.fit (x : Head) : Prop := x.par.length ≤ 9223372036854775807 ∧ x.root.length ≤ 9223372036854775807 ∧ x.q.fit
def Head.few (x : Head) : Prop := okB x.par ∧ okB x.root ∧ x.q.few
theorem Head.few_cp {x : Head} (h : x.few) : x.cp.few := ⟨h.1, h.2.1, h.2.2.1, h.2.2.2.1, fewB_cp h.2.2.2.2⟩
theorem laws_szQc.ev (q : QcV) (h : q.fit) (a : Int) (h0 : 0 ≤ a) (h1 : a ≤ 1048576) : ∃ r, Ev (fun k => laws_szQc.f k q.v q.h q.bz q.blk q.mz q.bits q.tz (q.tags.map By.t) a) r ∧ SzR q.few a r := by
  obtain ⟨r, e, s⟩ := laws_szByteS.ev q.bz q.blk h.1 a h0 h1
  rcases s with rfl | ⟨s1, s2, s3⟩
  · refine ⟨-1, ev_step ?_, Or.inl rfl⟩
    simp only [laws_szQc.f, laws_szQc.b]
    exact Ev.bind e (ev_pos (by omega) (ev_some rfl))
  obtain ⟨p, e2, s⟩ := laws_szByteS.ev q.mz q.bits h.2.1 r s1 (by omega)
  rcases s with rfl | ⟨t1, t2, t3⟩
  · refine ⟨-1, ev_step ?_, Or.inl rfl⟩
    simp only [laws_szQc.f, laws_szQc.b]
    exact Ev.bind e (ev_neg (by omega) (Ev.bind e2 (ev_pos (by omega) (ev_some rfl))))
  obtain ⟨o, e3, s⟩ := laws_szByteSS.ev q.tz q.tags h.2.2 p t1 (by omega)
  rcases s with rfl | ⟨u1, u2, u3⟩
  · refine ⟨-1, ev_step ?_, Or.inl rfl⟩
    simp only [laws_szQc.f, laws_szQc.b]
    exact Ev.bind e (ev_neg (by omega) (Ev.bind e2 (ev_neg (by omega) (Ev.bind e3 (ev_pos (by omega) (ev_some rfl))))))
  · refine ⟨o, ev_step ?_, Or.inr ⟨u1, by omega, s3, t3, u3⟩⟩
    simp only [laws_szQc.f, laws_szQc.b]
    exact Ev.bind e (ev_neg (by omega) (Ev.bind e2 (ev_neg (by omega) (Ev.bind e3 (ev_neg (by omega) (ev_some rfl))))))
theorem laws_szHead.ev (x : Head) (h : x.fit) (a : Int) (h0 : 0 ≤ a) (h1 : a ≤ 1048576) : ∃ r, Ev (fun k => laws_szHead.f k x.v x.h x.p x.az x.par x.rz x.root x.q.v x.q.h x.q.bz x.q.blk x.q.mz x.q.bits x.q.tz (x.q.tags.map By.t) a) r ∧ SzR x.few a r := by
  obtain ⟨r, e, s⟩ := laws_szByteS.ev x.az x.par h.1 a h0 h1
  rcases s with rfl | ⟨s1, s2, s3⟩
  · refine ⟨-1, ev_step ?_, Or.inl rfl⟩
    simp only [laws_szHead.f, laws_szHead.b]
    exact Ev.bind e (ev_pos (by omega) (ev_some rfl))
  obtain ⟨p, e2, s⟩ := laws_szByteS.ev x.rz x.root h.2.1 r s1 (by omega)
  rcases s with rfl | ⟨t1, t2, t3⟩
  · refine ⟨-1, ev_step ?_, Or.inl rfl⟩
    simp only [laws_szHead.f, laws_szHead.b]
    exact Ev.bind e (ev_neg (by omega) (Ev.bind e2 (ev_pos (by omega) (ev_some rfl))))
  obtain ⟨o, e3, s⟩ := laws_szQc.ev x.q h.2.2 p t1 (by omega)
  rcases s with rfl | ⟨u1, u2, u3⟩
  · refine ⟨-1, ev_step ?_, Or.inl rfl⟩
    simp only [laws_szHead.f, laws_szHead.b]
    exact Ev.bind e (ev_neg (by omega) (Ev.bind e2 (ev_neg (by omega) (Ev.bind e3 (ev_pos (by omega) (ev_some rfl))))))
  · refine ⟨o, ev_step ?_, Or.inr ⟨u1, by omega, s3, t3, u3⟩⟩
    simp only [laws_szHead.f, laws_szHead.b]
    exact Ev.bind e (ev_neg (by omega) (Ev.bind e2 (ev_neg (by omega) (Ev.bind e3 (ev_neg (by omega) (ev_some rfl))))))
def FitH (l : List Head) : Prop := l.length ≤ 9223372036854775807 ∧ ∀ x ∈ l, x.fit
def FewH (l : List Head) : Prop := l.length ≤ 1048576 ∧ ∀ x ∈ l, x.few
theorem fewH_cp {l : List Head} (h : FewH l) : FewH (l.map Head.cp) := ⟨by simpa using h.1, fun r hr => by
  obtain ⟨x, hx, rfl⟩ := List.mem_map.1 hr
  exact Head.few_cp (h.2 x hx)⟩
theorem laws_szHeadS.ev0 (z : Bool) (l : List Head) (hl : l.length ≤ 1048576) (h : ∀ b ∈ l, b.fit) : ∀ (d n : Nat) (a : Int), n + d = l.length → 0 ≤ a → a ≤ 1048576 → ∃ q, Ev (fun k => laws_szHeadS.l0 k z (l.map Head.t) a (n : Int)) q ∧ SzR (∀ r ∈ l.drop n, r.few) a q
  | 0, n, a, hn, h0, h1 => by
    refine ⟨a, ev_step ?_, Or.inr ⟨h0, by omega, fun r hr => ?_⟩⟩
    · simp only [laws_szHeadS.l0, laws_szHeadS.l0b, List.length_map]
      exact ev_neg (by omega) (ev_some rfl)
    · rw [List.drop_of_length_le (by omega)] at hr; cases hr
  | d + 1, n, a, hn, h0, h1 => by
    have hlt : n < l.length := by omega
    obtain ⟨q, e, s⟩ := laws_szHead.ev l[n] (h _ (List.getElem_mem hlt)) a h0 h1
    rcases s with rfl | ⟨s1, s2, s3⟩
    · refine ⟨-1, ev_step ?_, Or.inl rfl⟩
      simp only [laws_szHeadS.l0, laws_szHeadS.l0b, List.length_map, Int.toNat_natCast, head_at hlt, Head.c0, Head.c1, Head.c2, Head.c3z, Head.c3, Head.c4z, Head.c4, Head.c5, Head.c6, Head.c7z, Head.c7, Head.c8z, Head.c8, Head.c9z, Head.c9]
      exact ev_pos (by omega) (ev_pos (by omega) (ev_pos (by omega) (Ev.bind e (ev_pos (by omega) (ev_some rfl)))))
    · obtain ⟨p, e2, s'⟩ := laws_szHeadS.ev0 z l hl h d (n + 1) q (by omega) s1 (by omega)
      refine ⟨p, ev_step ?_, ?_⟩
      · simp only [laws_szHeadS.l0, laws_szHeadS.l0b, List.length_map, Int.toNat_natCast, head_at hlt, Head.c0, Head.c1, Head.c2, Head.c3z, Head.c3, Head.c4z, Head.c4, Head.c5, Head.c6, Head.c7z, Head.c7, Head.c8z, Head.c8, Head.c9z, Head.c9, succ_nat n (by omega)]
        exact ev_pos (by omega) (ev_pos (by omega) (ev_pos (by omega) (Ev.bind e (ev_neg (by omega) e2))))
      · rcases s' with rfl | ⟨t1, t2, t3⟩
        · exact Or.inl rfl
        · refine Or.inr ⟨t1, by omega, fun r hr => ?_⟩
          rw [List.drop_eq_getElem_cons hlt] at hr
          rcases List.mem_cons.1 hr with rfl | hr
          · exact s3
          · exact t3 r hr
theorem laws_szHeadS.ev (z : Bool) (l : List Head) (h : FitH l) (a : Int) (h0 : 0 ≤ a) (h1 : a ≤ 1048576) : ∃ q, Ev (fun k => laws_szHeadS.f k z (l.map Head.t) a) q ∧ SzR (FewH l) a q := by
  have hl := h.1
  have e : wrap64 (a - (l.length : Int)) = a - (l.length : Int) := w64 (by omega) (by omega)
  by_cases c : (l.length : Int) ≤ a
  · obtain ⟨q, e2, s⟩ := laws_szHeadS.ev0 z l (by clear e; omega) h.2 l.length 0 (a - l.length) (by omega) (by clear e; omega) (by clear e; omega)
    refine ⟨q, ev_step ?_, ?_⟩
    · simp only [laws_szHeadS.f, laws_szHeadS.b, List.length_map, e]
      clear e
      exact ev_neg (by omega) e2
    · clear e
      rcases s with rfl | ⟨t1, t2, t3⟩
      · exact Or.inl rfl
      · exact Or.inr ⟨t1, by omega, by omega, t3⟩
  · refine ⟨-1, ev_step ?_, Or.inl rfl⟩
    simp only [laws_szHeadS.f, laws_szHeadS.b, List.length_map, e]
    clear e
    exact ev_pos (by omega) (ev_some rfl)
theorem laws_toQc.ev (q : QcV) (h : q.few) : Ev (fun k => laws_toQc.f k q.v q.h q.bz q.blk q.mz q.bits q.tz (q.tags.map By.t)) (q.v, q.h, false, q.blk, false, q.bits, false, (q.tags.map By.cp).map By.t) := by
  refine ev_step ?_
  simp only [laws_toQc.f, laws_toQc.b]
  exact Ev.bind (laws_toByteS.ev _ _ h.1) (Ev.bind (laws_toByteS.ev _ _ h.2.1) (Ev.bind (laws_toByteSS.ev _ _ h.2.2) (ev_some rfl)))
theorem laws_toHead.ev (x : Head) (h : x.few) : Ev (fun k => laws_toHead.f k x.v x.h x.p x.az x.par x.rz x.root x.q.v x.q.h x.q.bz x.q.blk x.q.mz x.q.bits x.q.tz (x.q.tags.map By.t)) (x.v, x.h, x.p, false, x.par, false, x.root, x.q.v, x.q.h, false, x.q.blk, false, x.q.bits, false, (x.q.tags.map By.cp).map By.t) := by
  refine ev_step ?_
  simp only [laws_toHead.f, laws_toHead.b]
  exact Ev.bind (laws_toByteS.ev _ _ h.1) (Ev.bind (laws_toByteS.ev _ _ h.2.1) (Ev.bind (laws_toQc.ev _ h.2.2) (ev_some rfl)))
theorem laws_toHeadS.ev (z : Bool) (l : List Head) (h : FewH l) : Ev (fun k => laws_toHeadS.f k z (l.map Head.t)) (false, (l.map Head.cp).map Head.t) := by
  have hl : l.length ≤ 1048576 := h.1
  refine ev_step ?_
  simp only [laws_toHeadS.f, laws_toHeadS.b, List.length_map]
  refine ev_pos trivial (ev_pos (by omega) (ev_pos (by omega) ?_))
  have key : ∀ (d n : Nat) (ys : List T), n + d = l.length → ys.length = l.length → ys.take n = ((l.map Head.cp).map Head.t).take n → Ev (fun k => laws_toHeadS.l0 k z (l.map Head.t) ys (n : Int)) (false, (l.map Head.cp).map Head.t) := by
    intro d
    induction d with
    | zero =>
      intro n ys hn hy ht
      refine ev_step ?_
      simp only [laws_toHeadS.l0, laws_toHeadS.l0b, List.length_map]
      refine ev_neg (by omega) (ev_some ?_)
      rw [List.take_of_length_le (by omega), List.take_of_length_le (by simp; omega)] at ht
      rw [ht]
    | succ d ih =>
      intro n ys hn hy ht
      have hlt : n < l.length := by omega
      refine ev_step ?_
      have i2 := ih (n + 1) (ys.set n (l[n].cp).t) (by omega) (by simp [hy]) (by
        rw [List.take_succ_eq_append_getElem (by simp; omega), List.take_succ_eq_append_getElem (by simp; omega), List.take_set_of_le (Nat.le_refl n), ht, List.getElem_set_self]
        simp)
      simp only [laws_toHeadS.l0, laws_toHeadS.l0b, List.length_map, succ_nat n (by omega), Int.toNat_natCast, head_at hlt, Head.c0, Head.c1, Head.c2, Head.c3z, Head.c3, Head.c4z, Head.c4, Head.c5, Head.c6, Head.c7z, Head.c7, Head.c8z, Head.c8, Head.c9z, Head.c9]
      exact ev_pos (by omega) (ev_pos (by omega) (ev_pos (by omega) (Ev.bind (laws_toHead.ev l[n] (h.2 _ (List.getElem_mem hlt))) (ev_pos (by omega) (ev_pos (by omega) i2)))))
  exact key l.length 0 _ (by omega) (by simp) (by simp)
theorem laws_eqQc.ev (q : QcV) (h : q.few) : Ev (fun k => laws_eqQc.f k q.v q.h q.bz q.blk q.mz q.bits q.tz (q.tags.map By.t) q.v q.h q.bz q.blk q.mz q.bits q.tz (q.tags.map By.t)) true := by
  refine ev_step ?_
  simp only [laws_eqQc.f, laws_eqQc.b]
  exact ev_neg (by simp) (ev_neg (by simp) (Ev.bind (laws_eqByteS.ev _ _ _ h.1) (ev_neg (by simp) (Ev.bind (laws_eqByteS.ev _ _ _ h.2.1) (ev_neg (by simp) (Ev.bind (laws_eqByteSS.ev _ _ _ h.2.2) (ev_neg (by simp) (ev_some rfl))))))))
theorem laws_eqHead.ev (x : Head) (h : x.few) : Ev (fun k => laws_eqHead.f k x.v x.h x.p x.az x.par x.rz x.root x.q.v x.q.h x.q.bz x.q.blk x.q.mz x.q.bits x.q.tz (x.q.tags.map By.t) x.v x.h x.p x.az x.par x.rz x.root x.q.v x.q.h x.q.bz x.q.blk x.q.mz x.q.bits x.q.tz (x.q.tags.map By.t)) true := by
  refine ev_step ?_
  simp only [laws_eqHead.f, laws_eqHead.b]
  exact ev_neg (by simp) (ev_neg (by simp) (ev_neg (by simp) (Ev.bind (laws_eqByteS.ev _ _ _ h.1) (ev_neg (by simp) (Ev.bind (laws_eqByteS.ev _ _ _ h.2.1) (ev_neg (by simp) (Ev.bind (laws_eqQc.ev _ h.2.2) (ev_neg (by simp) (ev_some rfl)))))))))
theorem laws_eqHeadS.ev (y z : Bool) (l : List Head) (h : FewH l) : Ev (fun k => laws_eqHeadS.f k y (l.map Head.t) z (l.map Head.t)) true := by
  have hl : l.length ≤ 1048576 := h.1
  refine ev_step ?_
  simp only [laws_eqHeadS.f, laws_eqHeadS.b]
  refine ev_neg (by simp) ?_
  have key : ∀ (d n : Nat), n + d = l.length → Ev (fun k => laws_eqHeadS.l0 k y (l.map Head.t) z (l.map Head.t) (n : Int)) true := by
    intro d
    induction d with
    | zero =>
      intro n hn
      refine ev_step ?_
      simp only [laws_eqHeadS.l0, laws_eqHeadS.l0b, List.length_map]
      exact ev_neg (by omega) (ev_some rfl)
    | succ d ih =>
      intro n hn
      have hlt : n < l.length := by omega
      refine ev_step ?_
      simp only [laws_eqHeadS.l0, laws_eqHeadS.l0b, List.length_map, Int.toNat_natCast, head_at hlt, Head.c0, Head.c1, Head.c2, Head.c3z, Head.c3, Head.c4z, Head.c4, Head.c5, Head.c6, Head.c7z, Head.c7, Head.c8z, Head.c8, Head.c9z, Head.c9, succ_nat n (by omega)]
      exact ev_pos (by omega) (ev_pos (by omega) (ev_pos (by omega) (ev_pos (by omega) (ev_pos (by omega) (Ev.bind (laws_eqHead.ev _ (h.2 _ (List.getElem_mem hlt))) (ev_neg (by simp) (ih (n + 1) (by omega))))))))
  exact key l.length 0 (by omega)
end Go.Proofs.YtjffolalgcmhaaaDoorG
namespace Go.Proofs.YtjffolalgcmhaaaDoorG
open Go Go.Proofs.YtjffolalgcmhaaaDoorRv Go.RowKit
set_option linter.unusedVariables false
set_option linter.unusedSimpArgs false

structure Light where
  l0 : Int
  l1 : Int
  l2 : Int
  l3 : Int
  l4 : Int
  rz : Bool
  rows : List Row
  skip : Int
  bz : Bool
  buf : List Int
  cz : Bool
  chain : List Head
def Light.cp (x : Light) : Light := ⟨x.l0, x.l1, x.l2, x.l3, x.l4, false, x.rows.map Row.cp, x.skip, false, x.buf, false, x.chain.map Head.cp⟩
def Light.fit (x : Light) : Prop := Fit x.rows ∧ x.buf.length ≤ 9223372036854775807 ∧ FitH x.chain
def Light.few (x : Light) : Prop := Few x.rows ∧ okB x.buf ∧ FewH x.chain
end Go.Proofs.YtjffolalgcmhaaaDoorG
namespace Go.Proofs.YtjffolalgcmhaaaDoorG
open Go Go.Proofs.YtjffolalgcmhaaaDoorRv Go.RowKit
set_option linter.unusedVariables false
set_option linter.unusedSimpArgs false

structure Sl (α : Type) where
  z : Bool
  l : List α
def goodI (n : Int) : Prop := (Lit.int .i64 n).wf = true
def By.good (b : By) : Prop := b.l.length ≤ 9223372036854775807 ∧ ∀ n ∈ b.l, (Lit.int .u8 n).wf = true
def GoodL {α : Type} (g : α → Prop) (l : List α) : Prop := l.length ≤ 9223372036854775807 ∧ ∀ x ∈ l, g x
def Row.good (r : Row) : Prop := goodI r.f0 ∧ By.good ⟨r.z, r.f1⟩
def Tab.good (x : Sl Row) : Prop := GoodL Row.good x.l
def QcV.good (q : QcV) : Prop := goodI q.v ∧ goodI q.h ∧ By.good ⟨q.bz, q.blk⟩ ∧ By.good ⟨q.mz, q.bits⟩ ∧ GoodL By.good q.tags
def Head.good (h : Head) : Prop := goodI h.v ∧ goodI h.h ∧ goodI h.p ∧ By.good ⟨h.az, h.par⟩ ∧ By.good ⟨h.rz, h.root⟩ ∧ h.q.good
theorem fit_rows {l : List Row} (h : GoodL Row.good l) : Fit l := ⟨h.1, fun r hr => (h.2 r hr).2.1⟩
theorem fitB_of {l : List By} (h : GoodL By.good l) : FitB l := ⟨h.1, fun b hb => (h.2 b hb).1⟩
theorem QcV.fit_of {q : QcV} (h : q.good) : q.fit := ⟨h.2.2.1.1, h.2.2.2.1.1, fitB_of h.2.2.2.2⟩
theorem Head.fit_of {h : Head} (g : h.good) : h.fit := ⟨g.2.2.2.1.1, g.2.2.2.2.1.1, QcV.fit_of g.2.2.2.2.2⟩
theorem fitH_of {l : List Head} (h : GoodL Head.good l) : FitH l := ⟨h.1, fun x hx => Head.fit_of (h.2 x hx)⟩
structure Vt where
  v : Int
  h : Int
  bz : Bool
  blk : List Int
  who : Int
  tz : Bool
  tag : List Int
instance : Inhabited Vt := ⟨⟨0, 0, false, [], 0, false, []⟩⟩
def Vt.t (x : Vt) : T := .agg [.int .i64 x.v, .int .i64 x.h, .nums 5 .u8 x.bz x.blk, .int .i64 x.who, .nums 5 .u8 x.tz x.tag]
theorem Vt.c0 (x : Vt) : (x.t.cells.getD 0 .bad).toInt = x.v := rfl
theorem Vt.c1 (x : Vt) : (x.t.cells.getD 1 .bad).toInt = x.h := rfl
theorem Vt.c2 (x : Vt) : (x.t.cells.getD 2 .bad).toNums = x.blk := rfl
theorem Vt.c3 (x : Vt) : (x.t.cells.getD 3 .bad).toInt = x.who := rfl
theorem Vt.c4z (x : Vt) : (x.t.cells.getD 4 .bad).isNil = x.tz := rfl
theorem Vt.c4 (x : Vt) : (x.t.cells.getD 4 .bad).toNums = x.tag := rfl
def Vt.good (x : Vt) : Prop := goodI x.v ∧ goodI x.h ∧ By.good ⟨x.bz, x.blk⟩ ∧ goodI x.who ∧ By.good ⟨x.tz, x.tag⟩
def Vt.cp (x : Vt) : Vt := ⟨x.v, x.h, false, x.blk, x.who, false, x.tag⟩
structure En where
  who : Int
  high : Int
  tz : Bool
  tag : List Int
instance : Inhabited En := ⟨⟨0, 0, false, []⟩⟩
def En.t (x : En) : T := .agg [.int .i64 x.who, .int .i64 x.high, .nums 5 .u8 x.tz x.tag]
theorem En.c0 (x : En) : (x.t.cells.getD 0 .bad).toInt = x.who := rfl
theorem En.c1 (x : En) : (x.t.cells.getD 1 .bad).toInt = x.high := rfl
theorem En.c2 (x : En) : (x.t.cells.getD 2 .bad).toNums = x.tag := rfl
def En.good (x : En) : Prop := goodI x.who ∧ goodI x.high ∧ By.good ⟨x.tz, x.tag⟩
def En.cp (x : En) : En := ⟨x.who, x.high, false, x.tag⟩

structure Lm where
  l0 : Int
  l1 : Int
  l2 : Int
  l3 : Int
  l4 : Int
def Lm.good (x : Lm) : Prop := goodI x.l0 ∧ goodI x.l1 ∧ goodI x.l2 ∧ goodI x.l3 ∧ goodI x.l4
structure TcV where
  v : Int
  ez : Bool
  ents : List En
def TcV.good (x : TcV) : Prop := goodI x.v ∧ GoodL En.good x.ents
structure Ps where
  skip : Int
  z : Bool
  buf : List Int
def Ps.good (x : Ps) : Prop := goodI x.skip ∧ By.good ⟨x.z, x.buf⟩
def Light.good (x : Light) : Prop := Lm.good ⟨x.l0, x.l1, x.l2, x.l3, x.l4⟩ ∧ GoodL Row.good x.rows ∧ Ps.good ⟨x.skip, x.bz, x.buf⟩ ∧ GoodL Head.good x.chain
theorem Light.fit_of {x : Light} (h : x.good) : x.fit := ⟨fit_rows h.2.1, h.2.2.1.2.1, fitH_of h.2.2.2⟩
structure Fo where
  l0 : Int
  l1 : Int
  l2 : Int
  l3 : Int
  l4 : Int
  hz : Bool
  heads : List Head
def Fo.good (x : Fo) : Prop := Lm.good ⟨x.l0, x.l1, x.l2, x.l3, x.l4⟩ ∧ GoodL Head.good x.heads
structure Pf where
  hz : Bool
  heads : List Head
  q : QcV
def Pf.good (x : Pf) : Prop := GoodL Head.good x.heads ∧ x.q.good
end Go.Proofs.YtjffolalgcmhaaaDoorG
namespace Go.Proofs.YtjffolalgcmhaaaDoorG
open Go Go.Proofs.YtjffolalgcmhaaaDoorRv Go.RowKit
set_option linter.unusedVariables false
set_option linter.unusedSimpArgs false

end Go.Proofs.YtjffolalgcmhaaaDoorG
namespace Go.Proofs.YtjffolalgcmhaaaDoorG
open Go Go.Proofs.YtjffolalgcmhaaaDoorRv Go.RowKit
set_option linter.unusedVariables false
set_option linter.unusedSimpArgs false


end Go.Proofs.YtjffolalgcmhaaaDoorG
namespace Go.Proofs.YtjffolalgcmhaaaDoorG
open Go Go.Proofs.YtjffolalgcmhaaaDoorRv Go.RowKit
set_option linter.unusedVariables false
set_option linter.unusedSimpArgs false

end Go.Proofs.YtjffolalgcmhaaaDoorG
namespace Go.Proofs.YtjffolalgcmhaaaDoorG
open Go Go.Proofs.YtjffolalgcmhaaaDoorRv Go.RowKit
set_option linter.unusedVariables false
set_option linter.unusedSimpArgs false

theorem Rows.few {l : List Row} (h : Rows l) : l.length ≤ 1048576 := h.1
theorem QcV.few_cp {q : QcV} (h : q.few) : q.cp.few := ⟨h.1, h.2.1, fewB_cp h.2.2⟩
end Go.Proofs.YtjffolalgcmhaaaDoorG
namespace Go.Proofs.YtjffolalgcmhaaaDoorG
open Go Go.Proofs.YtjffolalgcmhaaaDoorRv Go.RowKit
set_option linter.unusedVariables false
set_option linter.unusedSimpArgs false

end Go.Proofs.YtjffolalgcmhaaaDoorG
namespace Go.Proofs.YtjffolalgcmhaaaDoorG
open Go Go.Proofs.YtjffolalgcmhaaaDoorRv Go.RowKit
set_option linter.unusedVariables false
set_option linter.unusedSimpArgs false

end Go.Proofs.YtjffolalgcmhaaaDoorG
namespace Go.Proofs.YtjffolalgcmhaaaDoorG
open Go Go.Proofs.YtjffolalgcmhaaaDoorRv Go.RowKit
set_option linter.unusedVariables false
set_option linter.unusedSimpArgs false

structure QcK (q : QcV) : Prop where
  v : isNum q.v = true
  h : isNum q.h = true
  blk : q.blk.length = 32
  bits : q.bits.length ≤ 2
  cnt : q.tags.length ≤ 16
  tags : ∀ b ∈ q.tags, b.l.length = 32
structure HeadK (x : Head) : Prop where
  v : isNum x.v = true
  h : isNum x.h = true
  p : isNum x.p = true
  par : x.par.length = 32
  root : x.root.length = 32
  q : QcK x.q
end Go.Proofs.YtjffolalgcmhaaaDoorG
namespace Go.Proofs.YtjffolalgcmhaaaDoorG
open Go Go.Proofs.YtjffolalgcmhaaaDoorRv Go.RowKit
set_option linter.unusedVariables false
set_option linter.unusedSimpArgs false


def str (l : List UInt8) : ByteArray := ⟨l.toArray⟩
theorem str_app (a b : List UInt8) : str a ++ str b = str (a ++ b) := by
  unfold str
  rw [ByteArray.mk_append_mk]

theorem str_sz (l : List UInt8) : (str l).size = l.length := by simp [str, ByteArray.size]
theorem lit_sz (l : List UInt8) : (ByteArray.mk (List.toArray l)).size = l.length := by simp [ByteArray.size]
theorem digits_le : ∀ (d u : Nat), u < 10 ^ (d + 1) → (Lib.decDigits u).length ≤ d + 1
  | 0, u, h => by rw [Lib.decDigits, dif_pos (by simpa using h)]; simp
  | d + 1, u, h => by
    by_cases c : u < 10
    · rw [Lib.decDigits, dif_pos c]; simp
    · rw [Lib.decDigits, dif_neg c]
      have e : 10 ^ (d + 1 + 1) = 10 ^ (d + 1) * 10 := Nat.pow_succ 10 (d + 1)
      have := digits_le d (u / 10) (by omega)
      simp only [List.length_append, List.length_cons, List.length_nil]
      omega
def numT (n : Int) : ByteArray := if isNum n = true then itoaB n else ⟨#[]⟩
theorem itoa_pos {n : Int} (h : 0 ≤ n) : itoaB n = str (Lib.decDigits n.toNat) := by
  unfold itoaB Lib.itoa str
  rw [if_neg (by omega)]
theorem numT_sz (n : Int) : (numT n).size ≤ 20 := by
  unfold numT
  split
  · rename_i h
    have h := isNum_iff.1 h
    rw [itoa_pos h.1, str_sz]
    exact Nat.le_trans (digits_le 18 n.toNat (by omega)) (by decide)
  · simp [ByteArray.size]
theorem strconv_Itoa.ev {n : Int} (h : isNum n = true) : Ev (fun k => strconv_Itoa.f k n) (itoaB n) := by
  have h := isNum_iff.1 h
  simp only [strconv_Itoa.f]
  exact ev_pos (by unfold inI; exact decide_eq_true ⟨by omega, by omega⟩) (ev_some rfl)
theorem impl_NumText.ev (n : Int) : Ev (fun k => impl_NumText.f k n) (numT n) := by
  refine ev_step ?_
  simp only [impl_NumText.f, impl_NumText.b]
  unfold numT
  refine Ev.bind (impl_isNum.ev n) (ev_ite (fun q => ev_some ?_) (fun q => ?_))
  · rw [if_neg q]
  · have q : isNum n = true := by simpa using q
    rw [if_pos q]
    exact Ev.bind (strconv_Itoa.ev q) (ev_some rfl)
theorem digit_str {u : Nat} (h : u < 10) : strOf [(wrap64 ((48 : Int) + (u : Int))) % 256] = str [UInt8.ofNat (48 + u)] := by
  have : (wrap64 ((48 : Int) + (u : Int)) % 256).toNat = 48 + u := by unfold wrap64; omega
  simp [strOf, str, this]
theorem spec_NumText.ev0 : ∀ (d u : Nat) (s : List UInt8), u < 10 ^ (d + 1) → d ≤ 18 → s.length + d ≤ 30 → Ev (fun k => spec_NumText.l0 k (u : Int) (str s)) (str (Lib.decDigits u ++ s))
  | d, u, s, h, hd, hs => by
    have h18 : 10 ^ (d + 1) ≤ 10 ^ 19 := Nat.pow_le_pow_right (by decide) (by omega)
    refine ev_step ?_
    simp only [spec_NumText.l0, spec_NumText.l0b]
    by_cases c : u < 10
    · rw [digit_str c]
      refine ev_neg (by omega) (ev_pos (by rw [str_sz, str_sz]; simp; omega) (ev_some ?_))
      rw [str_app, Lib.decDigits, dif_pos c]
    · have e1 : Int.tmod (u : Int) 10 = ((u % 10 : Nat) : Int) := by rw [Int.tmod_eq_emod_of_nonneg (by omega)]; omega
      have e2 : wrap64 (Int.tdiv (u : Int) 10) = ((u / 10 : Nat) : Int) := by rw [Int.tdiv_eq_ediv_of_nonneg (by omega), w64 (by omega) (by omega)]; omega
      rw [e1, e2, digit_str (u := u % 10) (by omega)]
      cases d with
      | zero => simp at h; omega
      | succ d =>
        have e : 10 ^ (d + 1 + 1) = 10 ^ (d + 1) * 10 := Nat.pow_succ 10 (d + 1)
        have ih := spec_NumText.ev0 d (u / 10) (UInt8.ofNat (48 + u % 10) :: s) (by omega) (by omega) (by simp; omega)
        refine ev_pos (by omega) (ev_pos (by rw [str_sz, str_sz]; simp; omega) ?_)
        rw [str_app]
        refine ev_to ih ?_
        rw [Lib.decDigits.eq_def u, dif_neg c]
        simp
theorem spec_NumText.ev (n : Int) : Ev (fun k => spec_NumText.f k n) (numT n) := by
  refine ev_step ?_
  simp only [spec_NumText.f, spec_NumText.b]
  unfold numT
  refine Ev.bind (spec_l01Num.ev n) (ev_ite (fun q => ev_some ?_) (fun q => ?_))
  · rw [if_neg q]
  · have q : isNum n = true := by simpa using q
    rw [if_pos q]
    have h := isNum_iff.1 q
    have := spec_NumText.ev0 18 n.toNat [] (by omega) (by omega) (by simp)
    rw [List.append_nil, show ((n.toNat : Nat) : Int) = n by omega] at this
    rw [itoa_pos h.1]
    exact this
def placeT (a b : Int) : ByteArray := numT a ++ (⟨#[47]⟩ : ByteArray) ++ numT b
theorem placeT_sz (a b : Int) : (placeT a b).size ≤ 41 := by
  have := numT_sz a
  have := numT_sz b
  unfold placeT
  simp only [ByteArray.size_append, lit_sz, List.length_cons, List.length_nil]
  omega
theorem impl_place.ev (a b : Int) : Ev (fun k => impl_place.f k a b) (placeT a b) := by
  have h1 := numT_sz a
  have h2 := numT_sz b
  refine ev_step ?_
  simp only [impl_place.f, impl_place.b]
  refine Ev.bind (impl_NumText.ev a) (ev_pos ?_ (Ev.bind (impl_NumText.ev b) (ev_pos ?_ (ev_some rfl)))) <;> (simp only [ByteArray.size_append, lit_sz, List.length_cons, List.length_nil]; omega)
end Go.Proofs.YtjffolalgcmhaaaDoorG
namespace Go.Proofs.YtjffolalgcmhaaaDoorG
open Go Go.Proofs.YtjffolalgcmhaaaDoorRv Go.RowKit
set_option linter.unusedVariables false
set_option linter.unusedSimpArgs false
structure Blk where
  hd : Head
  tz : Bool
  txs : List By
def Blk.good (x : Blk) : Prop := Head.good x.hd ∧ GoodL By.good x.txs
def Blk.cp (x : Blk) : Blk := ⟨x.hd.cp, false, x.txs.map By.cp⟩
structure Sd where
  k : Int
  n : Int
def Sd.good (x : Sd) : Prop := goodI x.k ∧ goodI x.n
structure Inc where
  h : Int
  n : Int
  at_ : Int
  xz : Bool
  tx : List Int
  pz : Bool
  path : List By
def Inc.good (x : Inc) : Prop := goodI x.h ∧ goodI x.n ∧ goodI x.at_ ∧ By.good ⟨x.xz, x.tx⟩ ∧ GoodL By.good x.path
def Inc.cp (x : Inc) : Inc := ⟨x.h, x.n, x.at_, false, x.tx, false, x.path.map By.cp⟩
def headsT : List Head → ByteArray
  | [] => ⟨#[]⟩
  | h :: t => ((⟨#[32]⟩ : ByteArray) ++ placeT h.v h.h) ++ headsT t
theorem app_nil (s : ByteArray) : s ++ (⟨#[]⟩ : ByteArray) = s := ByteArray.append_empty
theorem impl_ProofText.ev0 (z : Bool) (l : List Head) (hl : l.length ≤ 1048576) : ∀ (d n : Nat) (s : ByteArray), n + d = l.length → s.size + 42 * d ≤ 60000000 → Ev (fun k => impl_ProofText.l0 k s z (l.map Head.t) (l.length : Int) (n : Int)) (s ++ headsT (l.drop n)) := by
  intro d
  induction d with
  | zero =>
    intro n s hn hs
    refine ev_step ?_
    simp only [impl_ProofText.l0, impl_ProofText.l0b]
    refine ev_neg (by omega) (ev_some ?_)
    rw [List.drop_of_length_le (by omega), headsT, app_nil]
  | succ d ih =>
    intro n s hn hs
    have hlt : n < l.length := by omega
    have := placeT_sz l[n].v l[n].h
    have := numT_sz l[n].v
    have := numT_sz l[n].h
    have i2 := ih (n + 1) (s ++ ((⟨#[32]⟩ : ByteArray) ++ placeT l[n].v l[n].h)) (by omega) (by simp only [ByteArray.size_append, lit_sz, List.length_cons, List.length_nil]; omega)
    refine ev_step ?_
    simp only [impl_ProofText.l0, impl_ProofText.l0b, List.length_map, Int.toNat_natCast, head_at hlt, Head.c0, Head.c1, succ_nat n (by omega)]
    refine ev_pos (by omega) (ev_pos (by omega) (ev_pos (by omega) ?_))
    rw [List.drop_eq_getElem_cons hlt, headsT, ← ByteArray.append_assoc]
    refine Ev.bind (impl_place.ev _ _) (ev_pos ?_ (ev_pos ?_ i2)) <;> (simp only [ByteArray.size_append, lit_sz, List.length_cons, List.length_nil]; omega)
theorem impl_ProofText.ev (x : Pf) (hl : x.heads.length ≤ 1048576) : Ev (fun k => impl_ProofText.f k x.hz (x.heads.map Head.t) x.q.v x.q.h x.q.bz x.q.blk x.q.mz x.q.bits x.q.tz (x.q.tags.map By.t)) ((⟨#[112, 114, 111, 111, 102]⟩ : ByteArray) ++ headsT x.heads) := by
  refine ev_step ?_
  simp only [impl_ProofText.f, impl_ProofText.b, List.length_map]
  exact impl_ProofText.ev0 x.hz x.heads hl x.heads.length 0 _ (by omega) (by rw [lit_sz]; simp; omega)
theorem spec_ProofText.ev0 (z : Bool) (l : List Head) (hl : l.length ≤ 1048576) : ∀ (d n : Nat) (s : ByteArray), n + d = l.length → s.size + 42 * d ≤ 60000000 → Ev (fun k => spec_ProofText.l0 k s z (l.map Head.t) (l.length : Int) (n : Int)) (s ++ headsT (l.drop n)) := by
  intro d
  induction d with
  | zero =>
    intro n s hn hs
    refine ev_step ?_
    simp only [spec_ProofText.l0, spec_ProofText.l0b]
    refine ev_neg (by omega) (ev_some ?_)
    rw [List.drop_of_length_le (by omega), headsT, app_nil]
  | succ d ih =>
    intro n s hn hs
    have hlt : n < l.length := by omega
    have := placeT_sz l[n].v l[n].h
    have := numT_sz l[n].v
    have := numT_sz l[n].h
    have i2 := ih (n + 1) (s ++ ((⟨#[32]⟩ : ByteArray) ++ placeT l[n].v l[n].h)) (by omega) (by simp only [ByteArray.size_append, lit_sz, List.length_cons, List.length_nil]; omega)
    refine ev_step ?_
    simp only [spec_ProofText.l0, spec_ProofText.l0b, List.length_map, Int.toNat_natCast, head_at hlt, Head.c0, Head.c1, succ_nat n (by omega)]
    refine ev_pos (by omega) (ev_pos (by omega) (ev_pos (by omega) ?_))
    rw [List.drop_eq_getElem_cons hlt, headsT, ← ByteArray.append_assoc]
    have e : s ++ ((⟨#[32]⟩ : ByteArray) ++ placeT l[n].v l[n].h) = s ++ (⟨#[32]⟩ : ByteArray) ++ numT l[n].v ++ (⟨#[47]⟩ : ByteArray) ++ numT l[n].h := by simp only [placeT, ByteArray.append_assoc]
    rw [e] at i2 ⊢
    refine ev_pos ?_ (Ev.bind (spec_NumText.ev _) (ev_pos ?_ (ev_pos ?_ (Ev.bind (spec_NumText.ev _) (ev_pos ?_ i2))))) <;> (simp only [ByteArray.size_append, lit_sz, List.length_cons, List.length_nil]; omega)
theorem spec_ProofText.ev (x : Pf) (hl : x.heads.length ≤ 1048576) : Ev (fun k => spec_ProofText.f k x.hz (x.heads.map Head.t) x.q.v x.q.h x.q.bz x.q.blk x.q.mz x.q.bits x.q.tz (x.q.tags.map By.t)) ((⟨#[112, 114, 111, 111, 102]⟩ : ByteArray) ++ headsT x.heads) := by
  refine ev_step ?_
  simp only [spec_ProofText.f, spec_ProofText.b, List.length_map]
  exact spec_ProofText.ev0 x.hz x.heads hl x.heads.length 0 _ (by omega) (by rw [lit_sz]; simp; omega)
theorem laws_szProof.ev (x : Pf) (g : Pf.good x) (a : Int) (h0 : 0 ≤ a) (h1 : a ≤ 1048576) : ∃ r, Ev (fun k => laws_szProof.f k x.hz (x.heads.map Head.t) x.q.v x.q.h x.q.bz x.q.blk x.q.mz x.q.bits x.q.tz (x.q.tags.map By.t) a) r ∧ SzR (FewH x.heads ∧ x.q.few) a r := by
  obtain ⟨r, e1, s⟩ := laws_szHeadS.ev x.hz x.heads (fitH_of g.1) a h0 h1
  rcases s with rfl | ⟨s1, s2, ok⟩
  · refine ⟨-1, ev_step ?_, .inl rfl⟩
    simp only [laws_szProof.f, laws_szProof.b]
    exact Ev.bind e1 (ev_pos (by omega) (ev_some rfl))
  obtain ⟨r2, e2, s⟩ := laws_szQc.ev x.q (QcV.fit_of g.2) r s1 (by omega)
  rcases s with rfl | ⟨t1, t2, ok2⟩
  · refine ⟨-1, ev_step ?_, .inl rfl⟩
    simp only [laws_szProof.f, laws_szProof.b]
    exact Ev.bind e1 (ev_neg (by omega) (Ev.bind e2 (ev_pos (by omega) (ev_some rfl))))
  · refine ⟨r2, ev_step ?_, .inr ⟨t1, by omega, ok, ok2⟩⟩
    simp only [laws_szProof.f, laws_szProof.b]
    exact Ev.bind e1 (ev_neg (by omega) (Ev.bind e2 (ev_neg (by omega) (ev_some rfl))))
theorem laws_toProof.ev (x : Pf) (ok : FewH x.heads) (ok2 : x.q.few) : Ev (fun k => laws_toProof.f k x.hz (x.heads.map Head.t) x.q.v x.q.h x.q.bz x.q.blk x.q.mz x.q.bits x.q.tz (x.q.tags.map By.t)) (false, (x.heads.map Head.cp).map Head.t, x.q.v, x.q.h, false, x.q.blk, false, x.q.bits, false, (x.q.tags.map By.cp).map By.t) := by
  refine ev_step ?_
  simp only [laws_toProof.f, laws_toProof.b]
  exact Ev.bind (laws_toHeadS.ev _ _ ok) (Ev.bind (laws_toQc.ev _ ok2) (ev_some rfl))
def Pf.cp' (x : Pf) : Pf := ⟨false, x.heads.map Head.cp, x.q.cp⟩
theorem laws_eqProof.ev (x : Pf) (ok : FewH x.heads) (ok2 : x.q.few) : Ev (fun k => laws_eqProof.f k x.hz (x.heads.map Head.t) x.q.v x.q.h x.q.bz x.q.blk x.q.mz x.q.bits x.q.tz (x.q.tags.map By.t) x.hz (x.heads.map Head.t) x.q.v x.q.h x.q.bz x.q.blk x.q.mz x.q.bits x.q.tz (x.q.tags.map By.t)) true := by
  refine ev_step ?_
  simp only [laws_eqProof.f, laws_eqProof.b]
  exact Ev.bind (laws_eqHeadS.ev _ _ _ ok) (ev_neg (by simp) (Ev.bind (laws_eqQc.ev x.q ok2) (ev_neg (by simp) (ev_some rfl))))
theorem laws_FnExactProofText.top (x0 : Pf) (g0 : Pf.good x0) : Ev (fun k => laws_FnExactProofText.f k x0.hz (x0.heads.map Head.t) x0.q.v x0.q.h x0.q.bz x0.q.blk x0.q.mz x0.q.bits x0.q.tz (x0.q.tags.map By.t)) true := by
  refine ev_step ?_
  simp only [laws_FnExactProofText.f, laws_FnExactProofText.b]
  obtain ⟨r, e1, s⟩ := laws_szProof.ev x0 g0 1048576 (by omega) (by omega)
  rcases s with rfl | ⟨s1, s2, ok, ok2⟩
  · exact Ev.bind e1 (ev_pos (by omega) (ev_some rfl))
  have T := laws_toProof.ev x0 ok ok2
  have hl : x0.cp'.heads.length ≤ 1048576 := by simpa [Pf.cp'] using ok.1
  exact Ev.bind e1 (ev_neg (by omega) (Ev.bind T (Ev.bind (spec_ProofText.ev x0.cp' hl) (Ev.bind T (Ev.bind (impl_ProofText.ev x0.cp' hl) (ev_neg (by simp) (Ev.bind T (Ev.bind (laws_eqProof.ev x0.cp' (fewH_cp ok) (QcV.few_cp ok2)) (ev_neg (by simp) (ev_some rfl))))))))))
end Go.Proofs.YtjffolalgcmhaaaDoorG
