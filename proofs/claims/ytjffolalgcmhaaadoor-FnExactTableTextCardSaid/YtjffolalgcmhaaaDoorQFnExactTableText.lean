/- What the printed forms answer, over numbers and lists alone. Each lemma names its conditions. -/
import Derived.Test.YtjffolalgcmhaaaDoorGFnExactTableTextb
import Derived.Lib.ItoaNum
import Derived.Lib.Join
namespace Go.Proofs.YtjffolalgcmhaaaDoorG
open Go Go.Proofs.YtjffolalgcmhaaaDoorRv Go.RowKit
set_option linter.unusedVariables false
set_option linter.unusedSimpArgs false


theorem impl_within.ev (a b c : Int) : Ev (fun k => impl_within.f k a b c) (decide (b ≤ a ∧ a ≤ c)) := by
  refine ev_step ?_
  simp only [impl_within.f, impl_within.b]
  exact ev_ite (fun h => ev_some (by simp [h])) (fun h => ev_some (by simp [h]))
theorem spec_l01In.ev (a b c : Int) : Ev (fun k => spec_l01In.f k a b c) (decide (b ≤ a ∧ a ≤ c)) := by
  refine ev_step ?_
  simp only [spec_l01In.f, spec_l01In.b]
  exact ev_ite (fun h => ev_some (by simp [show b ≤ a from h])) (fun h => ev_some (by simp [show ¬ b ≤ a from h]))
theorem impl_isNum.ev (a : Int) : Ev (fun k => impl_isNum.f k a) (isNum a) := by
  refine ev_step ?_
  simp only [impl_isNum.f, impl_isNum.b]
  exact Ev.bind (impl_within.ev _ _ _) (ev_some rfl)
theorem spec_l01Num.ev (a : Int) : Ev (fun k => spec_l01Num.f k a) (isNum a) := by
  refine ev_step ?_
  simp only [spec_l01Num.f, spec_l01Num.b]
  exact Ev.bind (spec_l01In.ev _ _ _) (ev_some rfl)


structure Row where
  f0 : Int
  z : Bool
  f1 : List Int
instance : Inhabited Row := ⟨⟨0, false, []⟩⟩
def Row.t (r : Row) : T := .agg [.int .i64 r.f0, .nums 5 .u8 r.z r.f1]
theorem row_at {l : List Row} {i : Nat} (h : i < l.length) : (l.map Row.t).getD i .bad = (l[i]).t := by simp [List.getD_eq_getElem?_getD, h]
theorem Row.c0 (r : Row) : (r.t.cells.getD 0 .bad).toInt = r.f0 := rfl
theorem Row.c1z (r : Row) : (r.t.cells.getD 1 .bad).isNil = r.z := rfl
theorem Row.c1 (r : Row) : (r.t.cells.getD 1 .bad).toNums = r.f1 := rfl

def rowOk (r : Row) : Bool := decide (1 ≤ r.f0 ∧ r.f0 ≤ 1099511627776) && decide (1 ≤ r.f1.length ∧ r.f1.length ≤ 64)
def tabOk (l : List Row) : Bool := l.all rowOk && decide (1 ≤ l.length ∧ l.length ≤ 10)
theorem impl_TableOk.ev0 (z : Bool) (l : List Row) (h : l.length ≤ 1048576) : ∀ (d n : Nat), n + d = l.length → Ev (fun k => impl_TableOk.l0 k z (l.map Row.t) (l.length : Int) (n : Int) z (l.map Row.t)) ((l.drop n).all rowOk && decide (1 ≤ l.length ∧ l.length ≤ 10))
  | 0, n, hn => by
    refine ev_step ?_
    simp only [impl_TableOk.l0, impl_TableOk.l0b]
    refine ev_neg (by omega) (Ev.bind (impl_within.ev _ _ _) (ev_some ?_))
    rw [List.drop_of_length_le (by omega), List.length_map]
    have e : (1 ≤ (l.length : Int) ∧ (l.length : Int) ≤ 10) ↔ (1 ≤ l.length ∧ l.length ≤ 10) := by omega
    simp [e]
  | d + 1, n, hn => by
    have hlt : n < l.length := by omega
    refine ev_step ?_
    simp only [impl_TableOk.l0, impl_TableOk.l0b, Int.toNat_natCast, row_at hlt, Row.c0, Row.c1, List.length_map]
    refine ev_pos (by omega) (ev_pos (by omega) (ev_pos (by omega) (Ev.bind (impl_within.ev _ _ _) ?_)))
    rw [List.drop_eq_getElem_cons hlt, List.all_cons]
    refine ev_ite (fun c1 => ev_some ?_) (fun c1 => Ev.bind (impl_within.ev _ _ _) (ev_ite (fun c2 => ev_some ?_) (fun c2 => ?_)))
    · simp at c1
      have : ¬ (1 ≤ (l[n]).f0 ∧ (l[n]).f0 ≤ 1099511627776) := by omega
      simp [rowOk, this]
    · simp at c2
      have : ¬ (1 ≤ (l[n]).f1.length ∧ (l[n]).f1.length ≤ 64) := by omega
      simp [rowOk, this]
    · rw [w64s (by omega)]
      have ih := impl_TableOk.ev0 z l h d (n + 1) (by omega)
      refine ev_to ih ?_
      simp at c1 c2
      have c3 : 1 ≤ (l[n]).f1.length ∧ (l[n]).f1.length ≤ 64 := by omega
      simp [rowOk, c1, c3]
theorem impl_TableOk.ev (z : Bool) (l : List Row) (h : l.length ≤ 1048576) : Ev (fun k => impl_TableOk.f k z (l.map Row.t)) (tabOk l) := by
  refine ev_step ?_
  simp only [impl_TableOk.f, impl_TableOk.b, List.length_map]
  exact ev_to (impl_TableOk.ev0 z l h l.length 0 (by omega)) (by simp [tabOk])
theorem spec_l02Signers.ev (a : Int) : Ev (fun k => spec_l02Signers.f k a) (decide (1 ≤ a ∧ a ≤ 10)) := by
  refine ev_step ?_
  simp only [spec_l02Signers.f, spec_l02Signers.b]
  exact Ev.bind (spec_l01In.ev _ _ _) (ev_some rfl)
theorem spec_TableOk.ev0 (z : Bool) (l : List Row) (h : l.length ≤ 1048576) : ∀ (d n : Nat), n + d = l.length → Ev (fun k => spec_TableOk.l0 k z (l.map Row.t) (l.length : Int) (n : Int) z (l.map Row.t)) ((l.drop n).all rowOk && decide (1 ≤ l.length ∧ l.length ≤ 10))
  | 0, n, hn => by
    refine ev_step ?_
    simp only [spec_TableOk.l0, spec_TableOk.l0b]
    refine ev_neg (by omega) (Ev.bind (spec_l02Signers.ev _) (ev_some ?_))
    rw [List.drop_of_length_le (by omega), List.length_map]
    have e : (1 ≤ (l.length : Int) ∧ (l.length : Int) ≤ 10) ↔ (1 ≤ l.length ∧ l.length ≤ 10) := by omega
    simp [e]
  | d + 1, n, hn => by
    have hlt : n < l.length := by omega
    refine ev_step ?_
    simp only [spec_TableOk.l0, spec_TableOk.l0b, Int.toNat_natCast, row_at hlt, Row.c0, Row.c1, List.length_map]
    refine ev_pos (by omega) (ev_pos (by omega) (ev_pos (by omega) (Ev.bind (spec_l01In.ev _ _ _) ?_)))
    rw [List.drop_eq_getElem_cons hlt, List.all_cons]
    refine ev_ite (fun c1 => ev_some ?_) (fun c1 => Ev.bind (spec_l01In.ev _ _ _) (ev_ite (fun c2 => ev_some ?_) (fun c2 => ?_)))
    · simp at c1
      have : ¬ (1 ≤ (l[n]).f0 ∧ (l[n]).f0 ≤ 1099511627776) := by omega
      simp [rowOk, this]
    · simp at c2
      have : ¬ (1 ≤ (l[n]).f1.length ∧ (l[n]).f1.length ≤ 64) := by omega
      simp [rowOk, this]
    · rw [w64s (by omega)]
      have ih := spec_TableOk.ev0 z l h d (n + 1) (by omega)
      refine ev_to ih ?_
      simp at c1 c2
      have c3 : 1 ≤ (l[n]).f1.length ∧ (l[n]).f1.length ≤ 64 := by omega
      simp [rowOk, c1, c3]
theorem spec_TableOk.ev (z : Bool) (l : List Row) (h : l.length ≤ 1048576) : Ev (fun k => spec_TableOk.f k z (l.map Row.t)) (tabOk l) := by
  refine ev_step ?_
  simp only [spec_TableOk.f, spec_TableOk.b, List.length_map]
  exact ev_to (spec_TableOk.ev0 z l h l.length 0 (by omega)) (by simp [tabOk])
end Go.Proofs.YtjffolalgcmhaaaDoorG
namespace Go.Proofs.YtjffolalgcmhaaaDoorG
open Go Go.Proofs.YtjffolalgcmhaaaDoorRv Go.RowKit
set_option linter.unusedVariables false
set_option linter.unusedSimpArgs false


theorem rdI_nat {l : List Int} {n : Nat} (h : n < l.length) : rdI l (n : Int) = l[n] := by simp [rdI, h]
def bytesOk (b : List Int) : Prop := ∀ x ∈ b, 0 ≤ x ∧ x < 256

end Go.Proofs.YtjffolalgcmhaaaDoorG
namespace Go.Proofs.YtjffolalgcmhaaaDoorG
open Go Go.Proofs.YtjffolalgcmhaaaDoorRv Go.RowKit
set_option linter.unusedVariables false
set_option linter.unusedSimpArgs false

section
variable (y0 y1 y2 : Bool) (h b : List Int)



end
end Go.Proofs.YtjffolalgcmhaaaDoorG
namespace Go.Proofs.YtjffolalgcmhaaaDoorG
open Go Go.Proofs.YtjffolalgcmhaaaDoorRv Go.RowKit
set_option linter.unusedVariables false
set_option linter.unusedSimpArgs false


section
variable (z : Bool) (l : List Int)
end


theorem succ_nat (i : Nat) (h : i ≤ 1000000000) : wrap64 ((i : Int) + 1) = ((i + 1 : Nat) : Int) := by unfold wrap64; omega

end Go.Proofs.YtjffolalgcmhaaaDoorG
namespace Go.Proofs.YtjffolalgcmhaaaDoorG
open Go Go.Proofs.YtjffolalgcmhaaaDoorRv Go.RowKit
set_option linter.unusedVariables false
set_option linter.unusedSimpArgs false


def Row.ok (r : Row) : Prop := r.f1.length ≤ 1048576 ∧ bytesOk r.f1
def Rows (l : List Row) : Prop := l.length ≤ 1048576 ∧ ∀ r ∈ l, r.ok
theorem laws_szByteS.ev (z : Bool) (l : List Int) (h : l.length ≤ 9223372036854775807) (a : Int) (h0 : 0 ≤ a) (h1 : a ≤ 1048576) : ∃ r, Ev (fun k => laws_szByteS.f k z l a) r ∧ SzR (okB l) a r := by
  have e : wrap64 (a - (l.length : Int)) = a - (l.length : Int) := w64 (by omega) (by omega)
  by_cases c : (l.length : Int) ≤ a
  · refine ⟨a - l.length, ev_step ?_, Or.inr ⟨by omega, by omega, by unfold okB; omega⟩⟩
    simp only [laws_szByteS.f, laws_szByteS.b, e]
    clear e
    exact ev_neg (by omega) (ev_some rfl)
  · refine ⟨-1, ev_step ?_, Or.inl rfl⟩
    simp only [laws_szByteS.f, laws_szByteS.b, e]
    clear e
    exact ev_pos (by omega) (ev_some rfl)
def Row.fit (r : Row) : Prop := r.f1.length ≤ 9223372036854775807
theorem laws_szRow.ev (r : Row) (h : r.fit) (a : Int) (h0 : 0 ≤ a) (h1 : a ≤ 1048576) : ∃ q, Ev (fun k => laws_szRow.f k r.f0 r.z r.f1 a) q ∧ SzR (okB r.f1) a q := by
  obtain ⟨q, e, s⟩ := laws_szByteS.ev r.z r.f1 h a h0 h1
  rcases s with rfl | ⟨s1, s2, s3⟩
  · refine ⟨-1, ev_step ?_, Or.inl rfl⟩
    simp only [laws_szRow.f, laws_szRow.b]
    exact Ev.bind e (ev_pos (by omega) (ev_some rfl))
  · refine ⟨q, ev_step ?_, Or.inr ⟨s1, s2, s3⟩⟩
    simp only [laws_szRow.f, laws_szRow.b]
    exact Ev.bind e (ev_neg (by omega) (ev_some rfl))
theorem laws_szRowS.ev0 (z : Bool) (l : List Row) (hl : l.length ≤ 1048576) (h : ∀ r ∈ l, r.fit) : ∀ (d n : Nat) (a : Int), n + d = l.length → 0 ≤ a → a ≤ 1048576 → ∃ q, Ev (fun k => laws_szRowS.l0 k z (l.map Row.t) a (n : Int)) q ∧ SzR (∀ r ∈ l.drop n, okB r.f1) a q
  | 0, n, a, hn, h0, h1 => by
    refine ⟨a, ev_step ?_, Or.inr ⟨h0, by omega, fun r hr => ?_⟩⟩
    · simp only [laws_szRowS.l0, laws_szRowS.l0b, List.length_map]
      exact ev_neg (by omega) (ev_some rfl)
    · rw [List.drop_of_length_le (by omega)] at hr; cases hr
  | d + 1, n, a, hn, h0, h1 => by
    have hlt : n < l.length := by omega
    obtain ⟨q, e, s⟩ := laws_szRow.ev l[n] (h _ (List.getElem_mem hlt)) a h0 h1
    rcases s with rfl | ⟨s1, s2, s3⟩
    · refine ⟨-1, ev_step ?_, Or.inl rfl⟩
      simp only [laws_szRowS.l0, laws_szRowS.l0b, List.length_map, Int.toNat_natCast, row_at hlt, Row.c0, Row.c1, Row.c1z]
      exact ev_pos (by omega) (ev_pos (by omega) (ev_pos (by omega) (Ev.bind e (ev_pos (by omega) (ev_some rfl)))))
    · obtain ⟨p, e2, s'⟩ := laws_szRowS.ev0 z l hl h d (n + 1) q (by omega) s1 (by omega)
      refine ⟨p, ev_step ?_, ?_⟩
      · simp only [laws_szRowS.l0, laws_szRowS.l0b, List.length_map, Int.toNat_natCast, row_at hlt, Row.c0, Row.c1, Row.c1z, succ_nat n (by omega)]
        exact ev_pos (by omega) (ev_pos (by omega) (ev_pos (by omega) (Ev.bind e (ev_neg (by omega) e2))))
      · rcases s' with rfl | ⟨t1, t2, t3⟩
        · exact Or.inl rfl
        · refine Or.inr ⟨t1, by omega, fun r hr => ?_⟩
          rw [List.drop_eq_getElem_cons hlt] at hr
          rcases List.mem_cons.1 hr with rfl | hr
          · exact s3
          · exact t3 r hr
def Fit (l : List Row) : Prop := l.length ≤ 9223372036854775807 ∧ ∀ r ∈ l, r.fit
def Few (l : List Row) : Prop := l.length ≤ 1048576 ∧ ∀ r ∈ l, okB r.f1
theorem laws_szRowS.ev (z : Bool) (l : List Row) (h : Fit l) (a : Int) (h0 : 0 ≤ a) (h1 : a ≤ 1048576) : ∃ q, Ev (fun k => laws_szRowS.f k z (l.map Row.t) a) q ∧ SzR (Few l) a q := by
  have hl := h.1
  have e : wrap64 (a - (l.length : Int)) = a - (l.length : Int) := w64 (by omega) (by omega)
  by_cases c : (l.length : Int) ≤ a
  · obtain ⟨q, e2, s⟩ := laws_szRowS.ev0 z l (by clear e; omega) h.2 l.length 0 (a - l.length) (by omega) (by clear e; omega) (by clear e; omega)
    refine ⟨q, ev_step ?_, ?_⟩
    · simp only [laws_szRowS.f, laws_szRowS.b, List.length_map, e]
      clear e
      exact ev_neg (by omega) e2
    · clear e
      rcases s with rfl | ⟨t1, t2, t3⟩
      · exact Or.inl rfl
      · exact Or.inr ⟨t1, by omega, by omega, t3⟩
  · refine ⟨-1, ev_step ?_, Or.inl rfl⟩
    simp only [laws_szRowS.f, laws_szRowS.b, List.length_map, e]
    clear e
    exact ev_pos (by omega) (ev_some rfl)
theorem laws_szTable.ev (z : Bool) (l : List Row) (h : Fit l) (a : Int) (h0 : 0 ≤ a) (h1 : a ≤ 1048576) : ∃ q, Ev (fun k => laws_szTable.f k z (l.map Row.t) a) q ∧ SzR (Few l) a q := by
  obtain ⟨q, e, s⟩ := laws_szRowS.ev z l h a h0 h1
  rcases s with rfl | ⟨s1, s2, s3⟩
  · refine ⟨-1, ev_step ?_, Or.inl rfl⟩
    simp only [laws_szTable.f, laws_szTable.b]
    exact Ev.bind e (ev_pos (by omega) (ev_some rfl))
  · refine ⟨q, ev_step ?_, Or.inr ⟨s1, s2, s3⟩⟩
    simp only [laws_szTable.f, laws_szTable.b]
    exact Ev.bind e (ev_neg (by omega) (ev_some rfl))

theorem laws_toByteS.ev (z : Bool) (l : List Int) (h : okB l) : Ev (fun k => laws_toByteS.f k z l) (false, l) := by
  have hl : l.length ≤ 1048576 := h
  refine ev_step ?_
  simp only [laws_toByteS.f, laws_toByteS.b]
  refine ev_pos trivial (ev_pos (by omega) (ev_pos (by omega) ?_))
  have key : ∀ (d n : Nat) (ys : List Int), n + d = l.length → ys.length = l.length → ys.take n = l.take n → Ev (fun k => laws_toByteS.l0 k z l ys (n : Int)) (false, l) := by
    intro d
    induction d with
    | zero =>
      intro n ys hn hy ht
      refine ev_step ?_
      simp only [laws_toByteS.l0, laws_toByteS.l0b]
      refine ev_neg (by omega) (ev_some ?_)
      obtain rfl : n = l.length := by omega
      rw [List.take_length, ← hy, List.take_length] at ht
      rw [ht]
    | succ d ih =>
      intro n ys hn hy ht
      have hlt : n < l.length := by omega
      refine ev_step ?_
      have i2 := ih (n + 1) (ys.set n l[n]) (by omega) (by simp [hy]) (by
        rw [List.take_succ_eq_append_getElem (by simp; omega), List.take_succ_eq_append_getElem hlt, List.take_set_of_le (Nat.le_refl n), ht, List.getElem_set_self])
      simp only [laws_toByteS.l0, laws_toByteS.l0b, rdI_nat hlt, succ_nat n (by omega), Int.toNat_natCast]
      exact ev_pos (by omega) (ev_pos (by omega) (ev_pos (by omega) (ev_pos (by omega) (ev_pos (by omega) i2))))
  exact key l.length 0 _ (by omega) (by simp) (by simp)
def Row.cp (r : Row) : Row := ⟨r.f0, false, r.f1⟩
theorem laws_toRow.ev (r : Row) (h : okB r.f1) : Ev (fun k => laws_toRow.f k r.f0 r.z r.f1) (r.f0, false, r.f1) := by
  refine ev_step ?_
  simp only [laws_toRow.f, laws_toRow.b]
  exact Ev.bind (laws_toByteS.ev r.z r.f1 h) (ev_some rfl)
theorem laws_toRowS.ev (z : Bool) (l : List Row) (h : Few l) : Ev (fun k => laws_toRowS.f k z (l.map Row.t)) (false, (l.map Row.cp).map Row.t) := by
  have hl : l.length ≤ 1048576 := h.1
  refine ev_step ?_
  simp only [laws_toRowS.f, laws_toRowS.b, List.length_map]
  refine ev_pos trivial (ev_pos (by omega) (ev_pos (by omega) ?_))
  have key : ∀ (d n : Nat) (ys : List T), n + d = l.length → ys.length = l.length → ys.take n = ((l.map Row.cp).map Row.t).take n → Ev (fun k => laws_toRowS.l0 k z (l.map Row.t) ys (n : Int)) (false, (l.map Row.cp).map Row.t) := by
    intro d
    induction d with
    | zero =>
      intro n ys hn hy ht
      refine ev_step ?_
      simp only [laws_toRowS.l0, laws_toRowS.l0b, List.length_map]
      refine ev_neg (by omega) (ev_some ?_)
      rw [List.take_of_length_le (by omega), List.take_of_length_le (by simp; omega)] at ht
      rw [ht]
    | succ d ih =>
      intro n ys hn hy ht
      have hlt : n < l.length := by omega
      refine ev_step ?_
      have i2 := ih (n + 1) (ys.set n (l[n].cp).t) (by omega) (by simp [hy]) (by
        rw [List.take_succ_eq_append_getElem (by simp; omega), List.take_succ_eq_append_getElem (by simp; omega), List.take_set_of_le (Nat.le_refl n), ht, List.getElem_set_self]
        simp)
      simp only [laws_toRowS.l0, laws_toRowS.l0b, List.length_map, succ_nat n (by omega), Int.toNat_natCast, row_at hlt, Row.c0, Row.c1, Row.c1z]
      exact ev_pos (by omega) (ev_pos (by omega) (ev_pos (by omega) (Ev.bind (laws_toRow.ev l[n] (h.2 _ (List.getElem_mem hlt))) (ev_pos (by omega) (ev_pos (by omega) i2)))))
  exact key l.length 0 _ (by omega) (by simp) (by simp)
theorem laws_toTable.ev (z : Bool) (l : List Row) (h : Few l) : Ev (fun k => laws_toTable.f k z (l.map Row.t)) (false, (l.map Row.cp).map Row.t) := by
  refine ev_step ?_
  simp only [laws_toTable.f, laws_toTable.b]
  exact Ev.bind (laws_toRowS.ev z l h) (ev_some rfl)

theorem laws_eqByteS.ev (y z : Bool) (l : List Int) (h : okB l) : Ev (fun k => laws_eqByteS.f k y l z l) true := by
  have hl : l.length ≤ 1048576 := h
  refine ev_step ?_
  simp only [laws_eqByteS.f, laws_eqByteS.b]
  refine ev_neg (by simp) ?_
  have key : ∀ (d n : Nat), n + d = l.length → Ev (fun k => laws_eqByteS.l0 k y l z l (n : Int)) true := by
    intro d
    induction d with
    | zero =>
      intro n hn
      refine ev_step ?_
      simp only [laws_eqByteS.l0, laws_eqByteS.l0b]
      exact ev_neg (by omega) (ev_some rfl)
    | succ d ih =>
      intro n hn
      refine ev_step ?_
      simp only [laws_eqByteS.l0, laws_eqByteS.l0b, succ_nat n (by omega)]
      exact ev_pos (by omega) (ev_pos (by omega) (ev_pos (by omega) (ev_pos (by omega) (ev_pos (by omega) (ev_neg (by simp) (ih (n + 1) (by omega)))))))
  exact key l.length 0 (by omega)
theorem laws_eqRow.ev (r : Row) (h : okB r.f1) : Ev (fun k => laws_eqRow.f k r.f0 r.z r.f1 r.f0 r.z r.f1) true := by
  refine ev_step ?_
  simp only [laws_eqRow.f, laws_eqRow.b]
  exact ev_neg (by simp) (Ev.bind (laws_eqByteS.ev _ _ _ h) (ev_neg (by simp) (ev_some rfl)))
theorem laws_eqRowS.ev (y z : Bool) (l : List Row) (h : Few l) : Ev (fun k => laws_eqRowS.f k y (l.map Row.t) z (l.map Row.t)) true := by
  have hl : l.length ≤ 1048576 := h.1
  refine ev_step ?_
  simp only [laws_eqRowS.f, laws_eqRowS.b]
  refine ev_neg (by simp) ?_
  have key : ∀ (d n : Nat), n + d = l.length → Ev (fun k => laws_eqRowS.l0 k y (l.map Row.t) z (l.map Row.t) (n : Int)) true := by
    intro d
    induction d with
    | zero =>
      intro n hn
      refine ev_step ?_
      simp only [laws_eqRowS.l0, laws_eqRowS.l0b, List.length_map]
      exact ev_neg (by omega) (ev_some rfl)
    | succ d ih =>
      intro n hn
      have hlt : n < l.length := by omega
      refine ev_step ?_
      simp only [laws_eqRowS.l0, laws_eqRowS.l0b, List.length_map, Int.toNat_natCast, row_at hlt, Row.c0, Row.c1, Row.c1z, succ_nat n (by omega)]
      exact ev_pos (by omega) (ev_pos (by omega) (ev_pos (by omega) (ev_pos (by omega) (ev_pos (by omega) (Ev.bind (laws_eqRow.ev l[n] (h.2 _ (List.getElem_mem hlt))) (ev_neg (by simp) (ih (n + 1) (by omega))))))))
  exact key l.length 0 (by omega)
theorem laws_eqTable.ev (y z : Bool) (l : List Row) (h : Few l) : Ev (fun k => laws_eqTable.f k y (l.map Row.t) z (l.map Row.t)) true := by
  refine ev_step ?_
  simp only [laws_eqTable.f, laws_eqTable.b]
  exact Ev.bind (laws_eqRowS.ev y z l h) (ev_neg (by simp) (ev_some rfl))

theorem few_cp {l : List Row} (h : Few l) : Few (l.map Row.cp) := ⟨by simpa using h.1, fun r hr => by
  obtain ⟨x, hx, rfl⟩ := List.mem_map.1 hr
  exact h.2 x hx⟩
end Go.Proofs.YtjffolalgcmhaaaDoorG
namespace Go.Proofs.YtjffolalgcmhaaaDoorG
open Go Go.Proofs.YtjffolalgcmhaaaDoorRv Go.RowKit
set_option linter.unusedVariables false
set_option linter.unusedSimpArgs false

end Go.Proofs.YtjffolalgcmhaaaDoorG
namespace Go.Proofs.YtjffolalgcmhaaaDoorG
open Go Go.Proofs.YtjffolalgcmhaaaDoorRv Go.RowKit
set_option linter.unusedVariables false
set_option linter.unusedSimpArgs false

structure By where
  z : Bool
  l : List Int
instance : Inhabited By := ⟨⟨false, []⟩⟩
def By.t (b : By) : T := .nums 5 .u8 b.z b.l
def By.cp (b : By) : By := ⟨false, b.l⟩
theorem By.c0 (b : By) : (b.t.cells.getD 0 .bad).toNums = b.l := rfl
def FitB (l : List By) : Prop := l.length ≤ 9223372036854775807 ∧ ∀ b ∈ l, b.l.length ≤ 9223372036854775807
def FewB (l : List By) : Prop := l.length ≤ 1048576 ∧ ∀ b ∈ l, okB b.l
theorem fewB_cp {l : List By} (h : FewB l) : FewB (l.map By.cp) := ⟨by simpa using h.1, fun r hr => by
  obtain ⟨x, hx, rfl⟩ := List.mem_map.1 hr
  exact h.2 x hx⟩
structure QcV where
  v : Int
  h : Int
  bz : Bool
  blk : List Int
  mz : Bool
  bits : List Int
  tz : Bool
  tags : List By
structure Head where
  v : Int
  h : Int
  p : Int
  az : Bool
  par : List Int
  rz : Bool
  root : List Int
  q : QcV
instance : Inhabited Head := ⟨⟨0, 0, 0, false, [], false, [], ⟨0, 0, false, [], false, [], false, []⟩⟩⟩
def Head.t (x : Head) : T := .agg [.int .i64 x.v, .int .i64 x.h, .int .i64 x.p, .nums 5 .u8 x.az x.par, .nums 5 .u8 x.rz x.root, .int .i64 x.q.v, .int .i64 x.q.h, .nums 5 .u8 x.q.bz x.q.blk, .nums 5 .u8 x.q.mz x.q.bits, .sl 28 x.q.tz (x.q.tags.map By.t)]
section
variable (x : Head)
theorem Head.c0 : (x.t.cells.getD 0 .bad).toInt = x.v := rfl
theorem Head.c1 : (x.t.cells.getD 1 .bad).toInt = x.h := rfl
theorem Head.c2 : (x.t.cells.getD 2 .bad).toInt = x.p := rfl
theorem Head.c3 : (x.t.cells.getD 3 .bad).toNums = x.par := rfl
end
def QcV.cp (q : QcV) : QcV := ⟨q.v, q.h, false, q.blk, false, q.bits, false, q.tags.map By.cp⟩
def Head.cp (x : Head) : Head := ⟨x.v, x.h, x.p, false, x.par, false, x.root, x.q.cp⟩
def QcV.fit (q : QcV) : Prop := q.blk.length ≤ 9223372036854775807 ∧ q.bits.length ≤ 9223372036854775807 ∧ FitB q.tags
def QcV.few (q : QcV) : Prop := okB q.blk ∧ okB q.bits ∧ FewB q.tags
def Head.fit (x : Head) : Prop := x.par.length ≤ 9223372036854775807 ∧ x.root.length ≤ 9223372036854775807 ∧ x.q.fit
def Head.few (x : Head) : Prop := okB x.par ∧ okB x.root ∧ x.q.few
theorem Head.few_cp {x : Head} (h : x.few) : x.cp.few := ⟨h.1, h.2.1, h.2.2.1, h.2.2.2.1, fewB_cp h.2.2.2.2⟩
def FitH (l : List Head) : Prop := l.length ≤ 9223372036854775807 ∧ ∀ x ∈ l, x.fit
def FewH (l : List Head) : Prop := l.length ≤ 1048576 ∧ ∀ x ∈ l, x.few
end Go.Proofs.YtjffolalgcmhaaaDoorG
namespace Go.Proofs.YtjffolalgcmhaaaDoorG
open Go Go.Proofs.YtjffolalgcmhaaaDoorRv Go.RowKit
set_option linter.unusedVariables false
set_option linter.unusedSimpArgs false

structure Light where
  l0 : Int
  l1 : Int
  l2 : Int
  l3 : Int
  l4 : Int
  rz : Bool
  rows : List Row
  skip : Int
  bz : Bool
  buf : List Int
  cz : Bool
  chain : List Head
def Light.cp (x : Light) : Light := ⟨x.l0, x.l1, x.l2, x.l3, x.l4, false, x.rows.map Row.cp, x.skip, false, x.buf, false, x.chain.map Head.cp⟩
def Light.fit (x : Light) : Prop := Fit x.rows ∧ x.buf.length ≤ 9223372036854775807 ∧ FitH x.chain
def Light.few (x : Light) : Prop := Few x.rows ∧ okB x.buf ∧ FewH x.chain
end Go.Proofs.YtjffolalgcmhaaaDoorG
namespace Go.Proofs.YtjffolalgcmhaaaDoorG
open Go Go.Proofs.YtjffolalgcmhaaaDoorRv Go.RowKit
set_option linter.unusedVariables false
set_option linter.unusedSimpArgs false

structure Sl (α : Type) where
  z : Bool
  l : List α
def goodI (n : Int) : Prop := (Lit.int .i64 n).wf = true
def By.good (b : By) : Prop := b.l.length ≤ 9223372036854775807 ∧ ∀ n ∈ b.l, (Lit.int .u8 n).wf = true
def GoodL {α : Type} (g : α → Prop) (l : List α) : Prop := l.length ≤ 9223372036854775807 ∧ ∀ x ∈ l, g x
def Row.good (r : Row) : Prop := goodI r.f0 ∧ By.good ⟨r.z, r.f1⟩
def Tab.good (x : Sl Row) : Prop := GoodL Row.good x.l
def QcV.good (q : QcV) : Prop := goodI q.v ∧ goodI q.h ∧ By.good ⟨q.bz, q.blk⟩ ∧ By.good ⟨q.mz, q.bits⟩ ∧ GoodL By.good q.tags
def Head.good (h : Head) : Prop := goodI h.v ∧ goodI h.h ∧ goodI h.p ∧ By.good ⟨h.az, h.par⟩ ∧ By.good ⟨h.rz, h.root⟩ ∧ h.q.good
theorem fit_rows {l : List Row} (h : GoodL Row.good l) : Fit l := ⟨h.1, fun r hr => (h.2 r hr).2.1⟩
theorem bytes_rows {l : List Row} (h : GoodL Row.good l) : ∀ r ∈ l, bytesOk r.f1 := fun r hr x hx => wf8 ((h.2 r hr).2.2 x hx)
structure Vt where
  v : Int
  h : Int
  bz : Bool
  blk : List Int
  who : Int
  tz : Bool
  tag : List Int
instance : Inhabited Vt := ⟨⟨0, 0, false, [], 0, false, []⟩⟩
def Vt.t (x : Vt) : T := .agg [.int .i64 x.v, .int .i64 x.h, .nums 5 .u8 x.bz x.blk, .int .i64 x.who, .nums 5 .u8 x.tz x.tag]
theorem Vt.c0 (x : Vt) : (x.t.cells.getD 0 .bad).toInt = x.v := rfl
theorem Vt.c1 (x : Vt) : (x.t.cells.getD 1 .bad).toInt = x.h := rfl
theorem Vt.c2 (x : Vt) : (x.t.cells.getD 2 .bad).toNums = x.blk := rfl
theorem Vt.c3 (x : Vt) : (x.t.cells.getD 3 .bad).toInt = x.who := rfl
def Vt.good (x : Vt) : Prop := goodI x.v ∧ goodI x.h ∧ By.good ⟨x.bz, x.blk⟩ ∧ goodI x.who ∧ By.good ⟨x.tz, x.tag⟩
def Vt.cp (x : Vt) : Vt := ⟨x.v, x.h, false, x.blk, x.who, false, x.tag⟩
structure En where
  who : Int
  high : Int
  tz : Bool
  tag : List Int
instance : Inhabited En := ⟨⟨0, 0, false, []⟩⟩
def En.t (x : En) : T := .agg [.int .i64 x.who, .int .i64 x.high, .nums 5 .u8 x.tz x.tag]
theorem En.c0 (x : En) : (x.t.cells.getD 0 .bad).toInt = x.who := rfl
theorem En.c1 (x : En) : (x.t.cells.getD 1 .bad).toInt = x.high := rfl
theorem En.c2 (x : En) : (x.t.cells.getD 2 .bad).toNums = x.tag := rfl
def En.good (x : En) : Prop := goodI x.who ∧ goodI x.high ∧ By.good ⟨x.tz, x.tag⟩
def En.cp (x : En) : En := ⟨x.who, x.high, false, x.tag⟩

structure Lm where
  l0 : Int
  l1 : Int
  l2 : Int
  l3 : Int
  l4 : Int
def Lm.good (x : Lm) : Prop := goodI x.l0 ∧ goodI x.l1 ∧ goodI x.l2 ∧ goodI x.l3 ∧ goodI x.l4
structure TcV where
  v : Int
  ez : Bool
  ents : List En
def TcV.good (x : TcV) : Prop := goodI x.v ∧ GoodL En.good x.ents
structure Ps where
  skip : Int
  z : Bool
  buf : List Int
def Ps.good (x : Ps) : Prop := goodI x.skip ∧ By.good ⟨x.z, x.buf⟩
def Light.good (x : Light) : Prop := Lm.good ⟨x.l0, x.l1, x.l2, x.l3, x.l4⟩ ∧ GoodL Row.good x.rows ∧ Ps.good ⟨x.skip, x.bz, x.buf⟩ ∧ GoodL Head.good x.chain
structure Fo where
  l0 : Int
  l1 : Int
  l2 : Int
  l3 : Int
  l4 : Int
  hz : Bool
  heads : List Head
def Fo.good (x : Fo) : Prop := Lm.good ⟨x.l0, x.l1, x.l2, x.l3, x.l4⟩ ∧ GoodL Head.good x.heads
structure Pf where
  hz : Bool
  heads : List Head
  q : QcV
def Pf.good (x : Pf) : Prop := GoodL Head.good x.heads ∧ x.q.good
end Go.Proofs.YtjffolalgcmhaaaDoorG
namespace Go.Proofs.YtjffolalgcmhaaaDoorG
open Go Go.Proofs.YtjffolalgcmhaaaDoorRv Go.RowKit
set_option linter.unusedVariables false
set_option linter.unusedSimpArgs false

end Go.Proofs.YtjffolalgcmhaaaDoorG
namespace Go.Proofs.YtjffolalgcmhaaaDoorG
open Go Go.Proofs.YtjffolalgcmhaaaDoorRv Go.RowKit
set_option linter.unusedVariables false
set_option linter.unusedSimpArgs false


end Go.Proofs.YtjffolalgcmhaaaDoorG
namespace Go.Proofs.YtjffolalgcmhaaaDoorG
open Go Go.Proofs.YtjffolalgcmhaaaDoorRv Go.RowKit
set_option linter.unusedVariables false
set_option linter.unusedSimpArgs false

end Go.Proofs.YtjffolalgcmhaaaDoorG
namespace Go.Proofs.YtjffolalgcmhaaaDoorG
open Go Go.Proofs.YtjffolalgcmhaaaDoorRv Go.RowKit
set_option linter.unusedVariables false
set_option linter.unusedSimpArgs false

theorem Rows.few {l : List Row} (h : Rows l) : l.length ≤ 1048576 := h.1
theorem QcV.few_cp {q : QcV} (h : q.few) : q.cp.few := ⟨h.1, h.2.1, fewB_cp h.2.2⟩
end Go.Proofs.YtjffolalgcmhaaaDoorG
namespace Go.Proofs.YtjffolalgcmhaaaDoorG
open Go Go.Proofs.YtjffolalgcmhaaaDoorRv Go.RowKit
set_option linter.unusedVariables false
set_option linter.unusedSimpArgs false

end Go.Proofs.YtjffolalgcmhaaaDoorG
namespace Go.Proofs.YtjffolalgcmhaaaDoorG
open Go Go.Proofs.YtjffolalgcmhaaaDoorRv Go.RowKit
set_option linter.unusedVariables false
set_option linter.unusedSimpArgs false

end Go.Proofs.YtjffolalgcmhaaaDoorG
namespace Go.Proofs.YtjffolalgcmhaaaDoorG
open Go Go.Proofs.YtjffolalgcmhaaaDoorRv Go.RowKit
set_option linter.unusedVariables false
set_option linter.unusedSimpArgs false

structure QcK (q : QcV) : Prop where
  v : isNum q.v = true
  h : isNum q.h = true
  blk : q.blk.length = 32
  bits : q.bits.length ≤ 2
  cnt : q.tags.length ≤ 16
  tags : ∀ b ∈ q.tags, b.l.length = 32
structure HeadK (x : Head) : Prop where
  v : isNum x.v = true
  h : isNum x.h = true
  p : isNum x.p = true
  par : x.par.length = 32
  root : x.root.length = 32
  q : QcK x.q
end Go.Proofs.YtjffolalgcmhaaaDoorG
namespace Go.Proofs.YtjffolalgcmhaaaDoorG
open Go Go.Proofs.YtjffolalgcmhaaaDoorRv Go.RowKit
set_option linter.unusedVariables false
set_option linter.unusedSimpArgs false


def str (l : List UInt8) : ByteArray := ⟨l.toArray⟩
theorem str_app (a b : List UInt8) : str a ++ str b = str (a ++ b) := by
  unfold str
  rw [ByteArray.mk_append_mk]

theorem str_sz (l : List UInt8) : (str l).size = l.length := by simp [str, ByteArray.size]
theorem lit_sz (l : List UInt8) : (ByteArray.mk (List.toArray l)).size = l.length := by simp [ByteArray.size]
theorem strOf_sz (l : List Int) : (strOf l).size = l.length := by simp [strOf, ByteArray.size]
theorem digits_le : ∀ (d u : Nat), u < 10 ^ (d + 1) → (Lib.decDigits u).length ≤ d + 1
  | 0, u, h => by rw [Lib.decDigits, dif_pos (by simpa using h)]; simp
  | d + 1, u, h => by
    by_cases c : u < 10
    · rw [Lib.decDigits, dif_pos c]; simp
    · rw [Lib.decDigits, dif_neg c]
      have e : 10 ^ (d + 1 + 1) = 10 ^ (d + 1) * 10 := Nat.pow_succ 10 (d + 1)
      have := digits_le d (u / 10) (by omega)
      simp only [List.length_append, List.length_cons, List.length_nil]
      omega
def numT (n : Int) : ByteArray := if isNum n = true then itoaB n else ⟨#[]⟩
theorem itoa_pos {n : Int} (h : 0 ≤ n) : itoaB n = str (Lib.decDigits n.toNat) := by
  unfold itoaB Lib.itoa str
  rw [if_neg (by omega)]
theorem numT_sz (n : Int) : (numT n).size ≤ 20 := by
  unfold numT
  split
  · rename_i h
    have h := isNum_iff.1 h
    rw [itoa_pos h.1, str_sz]
    exact Nat.le_trans (digits_le 18 n.toNat (by omega)) (by decide)
  · simp [ByteArray.size]
theorem strconv_Itoa.ev {n : Int} (h : isNum n = true) : Ev (fun k => strconv_Itoa.f k n) (itoaB n) := by
  have h := isNum_iff.1 h
  simp only [strconv_Itoa.f]
  exact ev_pos (by unfold inI; exact decide_eq_true ⟨by omega, by omega⟩) (ev_some rfl)
theorem impl_NumText.ev (n : Int) : Ev (fun k => impl_NumText.f k n) (numT n) := by
  refine ev_step ?_
  simp only [impl_NumText.f, impl_NumText.b]
  unfold numT
  refine Ev.bind (impl_isNum.ev n) (ev_ite (fun q => ev_some ?_) (fun q => ?_))
  · rw [if_neg q]
  · have q : isNum n = true := by simpa using q
    rw [if_pos q]
    exact Ev.bind (strconv_Itoa.ev q) (ev_some rfl)
theorem digit_str {u : Nat} (h : u < 10) : strOf [(wrap64 ((48 : Int) + (u : Int))) % 256] = str [UInt8.ofNat (48 + u)] := by
  have : (wrap64 ((48 : Int) + (u : Int)) % 256).toNat = 48 + u := by unfold wrap64; omega
  simp [strOf, str, this]
theorem spec_NumText.ev0 : ∀ (d u : Nat) (s : List UInt8), u < 10 ^ (d + 1) → d ≤ 18 → s.length + d ≤ 30 → Ev (fun k => spec_NumText.l0 k (u : Int) (str s)) (str (Lib.decDigits u ++ s))
  | d, u, s, h, hd, hs => by
    have h18 : 10 ^ (d + 1) ≤ 10 ^ 19 := Nat.pow_le_pow_right (by decide) (by omega)
    refine ev_step ?_
    simp only [spec_NumText.l0, spec_NumText.l0b]
    by_cases c : u < 10
    · rw [digit_str c]
      refine ev_neg (by omega) (ev_pos (by rw [str_sz, str_sz]; simp; omega) (ev_some ?_))
      rw [str_app, Lib.decDigits, dif_pos c]
    · have e1 : Int.tmod (u : Int) 10 = ((u % 10 : Nat) : Int) := by rw [Int.tmod_eq_emod_of_nonneg (by omega)]; omega
      have e2 : wrap64 (Int.tdiv (u : Int) 10) = ((u / 10 : Nat) : Int) := by rw [Int.tdiv_eq_ediv_of_nonneg (by omega), w64 (by omega) (by omega)]; omega
      rw [e1, e2, digit_str (u := u % 10) (by omega)]
      cases d with
      | zero => simp at h; omega
      | succ d =>
        have e : 10 ^ (d + 1 + 1) = 10 ^ (d + 1) * 10 := Nat.pow_succ 10 (d + 1)
        have ih := spec_NumText.ev0 d (u / 10) (UInt8.ofNat (48 + u % 10) :: s) (by omega) (by omega) (by simp; omega)
        refine ev_pos (by omega) (ev_pos (by rw [str_sz, str_sz]; simp; omega) ?_)
        rw [str_app]
        refine ev_to ih ?_
        rw [Lib.decDigits.eq_def u, dif_neg c]
        simp
theorem spec_NumText.ev (n : Int) : Ev (fun k => spec_NumText.f k n) (numT n) := by
  refine ev_step ?_
  simp only [spec_NumText.f, spec_NumText.b]
  unfold numT
  refine Ev.bind (spec_l01Num.ev n) (ev_ite (fun q => ev_some ?_) (fun q => ?_))
  · rw [if_neg q]
  · have q : isNum n = true := by simpa using q
    rw [if_pos q]
    have h := isNum_iff.1 q
    have := spec_NumText.ev0 18 n.toNat [] (by omega) (by omega) (by simp)
    rw [List.append_nil, show ((n.toNat : Nat) : Int) = n by omega] at this
    rw [itoa_pos h.1]
    exact this
theorem hex_bt : ∀ n : Fin 16, btI (⟨#[48, 49, 50, 51, 52, 53, 54, 55, 56, 57, 97, 98, 99, 100, 101, 102]⟩ : ByteArray) ((n.val : Nat) : Int) = hexd ((n.val : Nat) : Int) := by decide
theorem hex_at {n : Int} (h0 : 0 ≤ n) (h1 : n < 16) : btI (⟨#[48, 49, 50, 51, 52, 53, 54, 55, 56, 57, 97, 98, 99, 100, 101, 102]⟩ : ByteArray) n = hexd n := by
  have := hex_bt ⟨n.toNat, by omega⟩
  rwa [show ((n.toNat : Nat) : Int) = n by omega] at this
theorem u8_15 : ∀ n : Fin 256, Go.bits .and .u8 ((n.val : Nat) : Int) 15 = ((n.val % 16 : Nat) : Int) := by decide +kernel
theorem u8_and15 {x : Int} (h0 : 0 ≤ x) (h1 : x < 256) : Go.bits .and .u8 x 15 = x % 16 := by
  have := u8_15 ⟨x.toNat, by omega⟩
  simp only at this
  rw [show ((x.toNat : Nat) : Int) = x by omega] at this
  rw [this]
  omega
theorem shr4 (x : Int) : shrI .u8 x 4 = x / 16 := by
  unfold shrI
  rfl
theorem rd_nib {l : List Int} (h : niceB l) {n : Nat} (hn : n < l.length) : 0 ≤ rdI l (n : Int) ∧ rdI l (n : Int) < 256 := by
  rw [rd_nat hn]
  exact h.2 _ (List.getElem_mem hn)
def hexT (l : List Int) : ByteArray := strOf (hex l)
theorem hexT_sz (l : List Int) : (hexT l).size = 2 * l.length := by rw [hexT, strOf_sz, hex_length]
theorem impl_HexText.ev0 (z : Bool) (l : List Int) (h : niceB l) : ∀ (d n : Nat) (acc : List Int), n + d = l.length → acc.length ≤ 2 * n → Ev (fun k => impl_HexText.l0 k acc z l (l.length : Int) (n : Int)) (strOf (acc ++ hex (l.drop n))) := by
  have hl := h.1
  intro d
  induction d with
  | zero =>
    intro n acc hn ha
    refine ev_step ?_
    simp only [impl_HexText.l0, impl_HexText.l0b]
    refine ev_neg (by omega) (ev_some ?_)
    rw [List.drop_of_length_le (by omega)]
    simp [hex]
  | succ d ih =>
    intro n acc hn ha
    have hlt : n < l.length := by omega
    have b := rd_nib h hlt
    have i2 := ih (n + 1) (acc ++ [hexd (rdI l (n : Int) / 16), hexd (rdI l (n : Int) % 16)]) (by omega) (by simp; omega)
    refine ev_step ?_
    simp only [impl_HexText.l0, impl_HexText.l0b]
    rw [u8_and15 b.1 b.2, shr4, hex_at (n := rdI l (n : Int) / 16) (by omega) (by omega), hex_at (n := rdI l (n : Int) % 16) (by omega) (by omega), w64s (by omega), lit_sz]
    simp only [List.length_cons, List.length_nil]
    refine ev_pos (by omega) (ev_pos (by omega) (ev_pos (by omega) (ev_pos (by omega) (ev_pos (by omega) (ev_pos (by omega) (ev_pos (by omega) (ev_pos (by omega) (ev_to i2 ?_))))))))
    rw [drop_rd hlt, hex]
    simp
theorem impl_HexText.ev (z : Bool) (l : List Int) (h : niceB l) : Ev (fun k => impl_HexText.f k z l) (hexT l) := by
  refine ev_step ?_
  simp only [impl_HexText.f, impl_HexText.b]
  exact ev_to (impl_HexText.ev0 z l h l.length 0 [] (by omega) (by simp)) (by simp [hexT])
theorem spec_l01Hex.ev (n : Int) (h0 : 0 ≤ n) (h1 : n < 16) : Ev (fun k => spec_l01Hex.f k n) (hexd n) := by
  refine ev_step ?_
  simp only [spec_l01Hex.f, spec_l01Hex.b]
  unfold hexd
  refine ev_ite (fun q => ev_some ?_) (fun q => ev_some ?_)
  · rw [if_pos q, w64 (by omega) (by omega), Int.emod_eq_of_lt (by omega) (by omega)]
  · rw [if_neg q, w64 (by omega) (by omega), Int.emod_eq_of_lt (by omega) (by omega)]
theorem spec_HexText.ev0 (z : Bool) (l : List Int) (h : niceB l) : ∀ (d n : Nat) (acc : List Int), n + d = l.length → acc.length ≤ 2 * n → Ev (fun k => spec_HexText.l0 k acc z l (l.length : Int) (n : Int)) (strOf (acc ++ hex (l.drop n))) := by
  have hl := h.1
  intro d
  induction d with
  | zero =>
    intro n acc hn ha
    refine ev_step ?_
    simp only [spec_HexText.l0, spec_HexText.l0b]
    refine ev_neg (by omega) (ev_some ?_)
    rw [List.drop_of_length_le (by omega)]
    simp [hex]
  | succ d ih =>
    intro n acc hn ha
    have hlt : n < l.length := by omega
    have b := rd_nib h hlt
    have i2 := ih (n + 1) (acc ++ [hexd (rdI l (n : Int) / 16), hexd (rdI l (n : Int) % 16)]) (by omega) (by simp; omega)
    refine ev_step ?_
    simp only [spec_HexText.l0, spec_HexText.l0b]
    rw [w64 (n := rdI l (n : Int)) (by omega) (by omega), Int.tdiv_eq_ediv_of_nonneg b.1, Int.tmod_eq_emod_of_nonneg b.1, w64 (n := rdI l (n : Int) / 16) (by omega) (by omega), w64s (by omega)]
    refine ev_pos (by omega) (ev_pos (by omega) (ev_pos (by omega) (Ev.bind (spec_l01Hex.ev _ (by omega) (by omega)) (Ev.bind (spec_l01Hex.ev _ (by omega) (by omega)) (ev_pos (by omega) (ev_to i2 ?_))))))
    rw [drop_rd hlt, hex]
    simp
theorem spec_HexText.ev (z : Bool) (l : List Int) (h : niceB l) : Ev (fun k => spec_HexText.f k z l) (hexT l) := by
  refine ev_step ?_
  simp only [spec_HexText.f, spec_HexText.b]
  exact ev_to (spec_HexText.ev0 z l h l.length 0 [] (by omega) (by simp)) (by simp [hexT])
end Go.Proofs.YtjffolalgcmhaaaDoorG
namespace Go.Proofs.YtjffolalgcmhaaaDoorG
open Go Go.Proofs.YtjffolalgcmhaaaDoorRv Go.RowKit
set_option linter.unusedVariables false
set_option linter.unusedSimpArgs false
structure Blk where
  hd : Head
  tz : Bool
  txs : List By
def Blk.good (x : Blk) : Prop := Head.good x.hd ∧ GoodL By.good x.txs
def Blk.cp (x : Blk) : Blk := ⟨x.hd.cp, false, x.txs.map By.cp⟩
structure Sd where
  k : Int
  n : Int
def Sd.good (x : Sd) : Prop := goodI x.k ∧ goodI x.n
structure Inc where
  h : Int
  n : Int
  at_ : Int
  xz : Bool
  tx : List Int
  pz : Bool
  path : List By
def Inc.good (x : Inc) : Prop := goodI x.h ∧ goodI x.n ∧ goodI x.at_ ∧ By.good ⟨x.xz, x.tx⟩ ∧ GoodL By.good x.path
def Inc.cp (x : Inc) : Inc := ⟨x.h, x.n, x.at_, false, x.tx, false, x.path.map By.cp⟩
theorem app_nil (s : ByteArray) : s ++ (⟨#[]⟩ : ByteArray) = s := ByteArray.append_empty
theorem nil_app (s : ByteArray) : (⟨#[]⟩ : ByteArray) ++ s = s := ByteArray.empty_append
end Go.Proofs.YtjffolalgcmhaaaDoorG
namespace Go.Proofs.YtjffolalgcmhaaaDoorG
open Go Go.Proofs.YtjffolalgcmhaaaDoorRv Go.RowKit
set_option linter.unusedVariables false
set_option linter.unusedSimpArgs false

theorem comma_sz : (⟨#[44]⟩ : ByteArray).size = 1 := rfl
def tailA (by_ : ByteArray) : List ByteArray → ByteArray
  | [] => ⟨#[]⟩
  | x :: r => by_ ++ x ++ tailA by_ r
def joinA (by_ : ByteArray) : List ByteArray → ByteArray
  | [] => ⟨#[]⟩
  | x :: r => x ++ tailA by_ r
theorem tailA_sz {by_ : ByteArray} {P : Nat} : ∀ {l : List ByteArray}, (∀ x ∈ l, x.size ≤ P) → (tailA by_ l).size ≤ l.length * (by_.size + P)
  | [], _ => by rw [tailA, lit_sz]; simp
  | x :: r, h => by
    have h1 := h x (by simp)
    have h2 := tailA_sz (by_ := by_) (l := r) fun y hy => h y (by simp [hy])
    unfold tailA
    simp only [ByteArray.size_append, List.length_cons, Nat.add_mul, Nat.one_mul]
    omega
theorem joinA_sz {by_ : ByteArray} {P : Nat} {l : List ByteArray} (h : ∀ x ∈ l, x.size ≤ P) : (joinA by_ l).size ≤ l.length * (by_.size + P) := by
  cases l with
  | nil => rw [joinA, lit_sz]; simp
  | cons x r =>
    have h1 := h x (by simp)
    have h2 := tailA_sz (by_ := by_) (l := r) fun y hy => h y (by simp [hy])
    unfold joinA
    simp only [ByteArray.size_append, List.length_cons, Nat.add_mul, Nat.one_mul]
    omega
theorem arr_ext {a b : ByteArray} (h : a.data.toList = b.data.toList) : a = b := by
  cases a
  cases b
  simpa using h
theorem data_app (a b : ByteArray) : (a ++ b).data.toList = a.data.toList ++ b.data.toList := by
  cases a
  cases b
  rw [ByteArray.mk_append_mk]
  first | done | simp
theorem tailA_data (by_ : ByteArray) : ∀ l : List ByteArray, (tailA by_ l).data.toList = Lib.joinTail by_.data.toList (l.map (·.data.toList))
  | [] => by simp [tailA, Lib.joinTail]
  | x :: r => by
    have ih := tailA_data by_ r
    unfold tailA
    rw [data_app, data_app, ih]
    simp [Lib.joinTail]
theorem strs_map (l : List ByteArray) : strsOf (l.map T.str) = l := by simp [strsOf, T.toStr, Function.comp_def]
theorem joinB_eq (by_ : ByteArray) (l : List ByteArray) : joinB (l.map T.str) by_ = joinA by_ l := by
  unfold joinB
  rw [strs_map]
  refine arr_ext ?_
  cases l with
  | nil => simp [joinA, Lib.join_nil]
  | cons x r =>
    unfold joinA
    rw [data_app, tailA_data, List.map_cons, Lib.join_cons]
theorem strings_Join.ev (z : Bool) (l : List ByteArray) (by_ : ByteArray) {P : Nat} (h : ∀ x ∈ l, x.size ≤ P) (hl : l.length ≤ 140737488355328) (hs : l.length * (by_.size + P) ≤ 140737488355328) : Ev (fun k => strings_Join.f k z (l.map T.str) by_) (joinA by_ l) := by
  simp only [strings_Join.f]
  refine ev_pos ?_ (ev_some (joinB_eq by_ l))
  unfold joinOk
  have := joinA_sz (by_ := by_) h
  rw [joinB_eq]
  simp only [Bool.and_eq_true, decide_eq_true_eq, List.length_map]
  exact ⟨⟨by simp [isStr], hl⟩, by omega⟩
theorem strA_at {l : List ByteArray} {i : Nat} (h : i < l.length) : ((((l.map T.str).getD i .bad).cells.getD 0 .bad)).toStr = l[i] := by
  simp [List.getD_eq_getElem?_getD, h, T.cells, T.toStr]
theorem spec_l29Join.ev0 (by_ : ByteArray) (z : Bool) (l : List ByteArray) (hl : l.length ≤ 140737488355328) : ∀ (d n : Nat) (s : ByteArray), 1 ≤ n → n + d = l.length → s.size + (tailA by_ (l.drop n)).size ≤ 140737488355328 → Ev (fun k => spec_l29Join.l0 k by_ s z (l.map T.str) (l.length : Int) (n : Int)) (s ++ tailA by_ (l.drop n)) := by
  intro d
  induction d with
  | zero =>
    intro n s h1 hn hs
    refine ev_step ?_
    simp only [spec_l29Join.l0, spec_l29Join.l0b]
    refine ev_neg (by omega) (ev_some ?_)
    rw [List.drop_of_length_le (by omega), tailA, app_nil]
  | succ d ih =>
    intro n s h1 hn hs
    have hlt : n < l.length := by omega
    rw [List.drop_eq_getElem_cons hlt, tailA] at hs ⊢
    simp only [ByteArray.size_append] at hs
    have i2 := ih (n + 1) (s ++ by_ ++ l[n]) (by omega) (by omega) (by simp only [ByteArray.size_append]; omega)
    refine ev_step ?_
    simp only [spec_l29Join.l0, spec_l29Join.l0b, List.length_map, Int.toNat_natCast, strA_at hlt, w64s (n := n) (by omega)]
    refine ev_pos (by omega) (ev_pos (by omega) (ev_pos (by omega) (ev_pos (by omega) (ev_pos (by omega) (ev_pos (by simp only [ByteArray.size_append]; omega) (ev_to i2 ?_))))))
    simp only [ByteArray.append_assoc]
theorem spec_l29Join.ev (z : Bool) (l : List ByteArray) (by_ : ByteArray) {P : Nat} (h : ∀ x ∈ l, x.size ≤ P) (hl : l.length ≤ 140737488355328) (hs : l.length * (by_.size + P) ≤ 140737488355328) : Ev (fun k => spec_l29Join.f k z (l.map T.str) by_) (joinA by_ l) := by
  have hj := joinA_sz (by_ := by_) h
  refine ev_step ?_
  simp only [spec_l29Join.f, spec_l29Join.b, List.length_map]
  cases l with
  | nil =>
    refine ev_step ?_
    simp only [spec_l29Join.l0, spec_l29Join.l0b, List.length_nil]
    exact ev_neg (by omega) (ev_some rfl)
  | cons x r =>
    unfold joinA at hj ⊢
    simp only [ByteArray.size_append] at hj
    have i2 := spec_l29Join.ev0 by_ z (x :: r) hl r.length 1 x (by omega) (by simp; omega) (by simp only [List.drop_succ_cons, List.drop_zero]; omega)
    refine ev_step ?_
    have e : ((((List.map T.str (x :: r)).getD (0 : Int).toNat T.bad).cells.getD 0 T.bad)).toStr = x := rfl
    have e2 : wrap64 ((0 : Int) + 1) = ((1 : Nat) : Int) := by unfold wrap64; omega
    simp only [spec_l29Join.l0, spec_l29Join.l0b, List.length_map, List.length_cons, e, e2]
    refine ev_pos (by omega) (ev_pos (by omega) (ev_pos (by omega) (ev_neg (by omega) (ev_pos (by rw [lit_sz]; simp only [List.length_nil]; omega) (ev_to ?_ rfl)))))
    rw [nil_app]
    simpa using i2
theorem map_app {α : Type} (f : α → ByteArray) (l : List α) (n : Nat) (h : n < l.length) : ((l.take n).map f).map T.str ++ [T.str (f l[n])] = ((l.take (n + 1)).map f).map T.str := by
  rw [List.take_succ_eq_append_getElem h, List.map_append, List.map_append]
  rfl

def rowT' (r : Row) : ByteArray := numT r.f0 ++ (⟨#[58]⟩ : ByteArray) ++ hexT r.f1
theorem rowT_sz {r : Row} (h : r.f1.length ≤ 1048576) : (rowT' r).size ≤ 2100000 := by
  have := numT_sz r.f0
  have := hexT_sz r.f1
  unfold rowT'
  simp only [ByteArray.size_append, lit_sz, List.length_cons, List.length_nil]
  omega
def tableT (l : List Row) : ByteArray := if tabOk l = true then (⟨#[116, 97, 98, 108, 101, 32]⟩ : ByteArray) ++ joinA (⟨#[44]⟩ : ByteArray) (l.map rowT') else ⟨#[]⟩
theorem rowsT_sz {l : List Row} (h : ∀ r ∈ l, niceB r.f1) : ∀ x ∈ l.map rowT', x.size ≤ 2100000 := fun x hx => by
  obtain ⟨r, hr, rfl⟩ := List.mem_map.1 hx
  exact rowT_sz (h r hr).1
theorem impl_TableText.ev0 (z : Bool) (l : List Row) (hl : l.length ≤ 1048576) (h : ∀ r ∈ l, niceB r.f1) : ∀ (d n : Nat), n + d = l.length → Ev (fun k => impl_TableText.l0 k (((l.take n).map rowT').map T.str) z (l.map Row.t) (l.length : Int) (n : Int)) ((⟨#[116, 97, 98, 108, 101, 32]⟩ : ByteArray) ++ joinA (⟨#[44]⟩ : ByteArray) (l.map rowT')) := by
  intro d
  induction d with
  | zero =>
    intro n hn
    have h2 := joinA_sz (by_ := (⟨#[44]⟩ : ByteArray)) (rowsT_sz h)
    rw [List.length_map, comma_sz] at h2
    refine ev_step ?_
    simp only [impl_TableText.l0, impl_TableText.l0b]
    rw [List.take_of_length_le (by omega)]
    refine ev_neg (by omega) (Ev.bind (strings_Join.ev false (l.map rowT') _ (rowsT_sz h) (by simp; omega) (by rw [comma_sz]; simp; omega)) (ev_pos ?_ (ev_some rfl)))
    simp only [ByteArray.size_append, lit_sz, List.length_cons, List.length_nil]; omega
  | succ d ih =>
    intro n hn
    have hlt : n < l.length := by omega
    have h1 := numT_sz l[n].f0
    have h2 := hexT_sz l[n].f1
    have h3 := h _ (List.getElem_mem hlt)
    have h4 := h3.1
    have i2 := ih (n + 1) (by omega)
    rw [← map_app rowT' l n hlt] at i2
    refine ev_step ?_
    simp only [impl_TableText.l0, impl_TableText.l0b, List.length_map, Int.toNat_natCast, row_at hlt, Row.c0, Row.c1, Row.c1z, succ_nat n (by omega)]
    refine ev_pos (by omega) (ev_pos (by omega) (ev_pos (by omega) (Ev.bind (impl_NumText.ev _) (ev_pos ?_ (Ev.bind (impl_HexText.ev _ _ h3) (ev_pos ?_ (ev_pos ?_ i2))))))) <;> first | (simp only [ByteArray.size_append, lit_sz, List.length_cons, List.length_nil]; omega) | (simp; omega)
theorem impl_TableText.ev (z : Bool) (l : List Row) (hl : l.length ≤ 1048576) (h : ∀ r ∈ l, niceB r.f1) : Ev (fun k => impl_TableText.f k z (l.map Row.t)) (tableT l) := by
  refine ev_step ?_
  simp only [impl_TableText.f, impl_TableText.b, List.length_map]
  unfold tableT
  refine Ev.bind (impl_TableOk.ev _ _ hl) (ev_ite (fun q => ev_some (by rw [if_neg q])) (fun q => ?_))
  have q : tabOk l = true := by simpa using q
  rw [if_pos q]
  exact impl_TableText.ev0 z l hl h l.length 0 (by omega)
theorem spec_TableText.ev0 (z : Bool) (l : List Row) (hl : l.length ≤ 1048576) (h : ∀ r ∈ l, niceB r.f1) : ∀ (d n : Nat), n + d = l.length → Ev (fun k => spec_TableText.l0 k (((l.take n).map rowT').map T.str) z (l.map Row.t) (l.length : Int) (n : Int)) ((⟨#[116, 97, 98, 108, 101, 32]⟩ : ByteArray) ++ joinA (⟨#[44]⟩ : ByteArray) (l.map rowT')) := by
  intro d
  induction d with
  | zero =>
    intro n hn
    have h2 := joinA_sz (by_ := (⟨#[44]⟩ : ByteArray)) (rowsT_sz h)
    rw [List.length_map, comma_sz] at h2
    refine ev_step ?_
    simp only [spec_TableText.l0, spec_TableText.l0b]
    rw [List.take_of_length_le (by omega)]
    refine ev_neg (by omega) (Ev.bind (spec_l29Join.ev false (l.map rowT') _ (rowsT_sz h) (by simp; omega) (by rw [comma_sz]; simp; omega)) (ev_pos ?_ (ev_some rfl)))
    simp only [ByteArray.size_append, lit_sz, List.length_cons, List.length_nil]; omega
  | succ d ih =>
    intro n hn
    have hlt : n < l.length := by omega
    have h1 := numT_sz l[n].f0
    have h2 := hexT_sz l[n].f1
    have h3 := h _ (List.getElem_mem hlt)
    have h4 := h3.1
    have i2 := ih (n + 1) (by omega)
    rw [← map_app rowT' l n hlt] at i2
    refine ev_step ?_
    simp only [spec_TableText.l0, spec_TableText.l0b, List.length_map, Int.toNat_natCast, row_at hlt, Row.c0, Row.c1, Row.c1z, succ_nat n (by omega)]
    refine ev_pos (by omega) (ev_pos (by omega) (ev_pos (by omega) (Ev.bind (spec_NumText.ev _) (ev_pos ?_ (Ev.bind (spec_HexText.ev _ _ h3) (ev_pos ?_ (ev_pos ?_ i2))))))) <;> first | (simp only [ByteArray.size_append, lit_sz, List.length_cons, List.length_nil]; omega) | (simp; omega)
theorem spec_TableText.ev (z : Bool) (l : List Row) (hl : l.length ≤ 1048576) (h : ∀ r ∈ l, niceB r.f1) : Ev (fun k => spec_TableText.f k z (l.map Row.t)) (tableT l) := by
  refine ev_step ?_
  simp only [spec_TableText.f, spec_TableText.b, List.length_map]
  unfold tableT
  refine Ev.bind (spec_TableOk.ev _ _ hl) (ev_ite (fun q => ev_some (by rw [if_neg q])) (fun q => ?_))
  have q : tabOk l = true := by simpa using q
  rw [if_pos q]
  exact spec_TableText.ev0 z l hl h l.length 0 (by omega)
theorem laws_FnExactTableText.top (x0 : Sl Row) (g0 : Tab.good x0) : Ev (fun k => laws_FnExactTableText.f k x0.z (x0.l.map Row.t)) true := by
  refine ev_step ?_
  simp only [laws_FnExactTableText.f, laws_FnExactTableText.b]
  obtain ⟨r, e1, s⟩ := laws_szTable.ev x0.z x0.l (fit_rows g0) 1048576 (by omega) (by omega)
  rcases s with rfl | ⟨s1, s2, few⟩
  · exact Ev.bind e1 (ev_pos (by omega) (ev_some rfl))
  have T := laws_toTable.ev x0.z x0.l few
  have few2 := few_cp few
  have nb : ∀ r ∈ x0.l.map Row.cp, niceB r.f1 := fun r hr => by
    obtain ⟨r', h', rfl⟩ := List.mem_map.1 hr
    exact ⟨few.2 r' h', bytes_rows g0 r' h'⟩
  exact Ev.bind e1 (ev_neg (by omega) (Ev.bind T (Ev.bind (spec_TableText.ev false _ few2.1 nb) (Ev.bind T (Ev.bind (impl_TableText.ev false _ few2.1 nb) (ev_neg (by simp) (Ev.bind T (Ev.bind (laws_eqTable.ev _ _ _ few2) (ev_neg (by simp) (ev_some rfl))))))))))
end Go.Proofs.YtjffolalgcmhaaaDoorG
