/- What the printed forms answer, over numbers and lists alone. Each lemma names its conditions. -/
import Derived.Test.YtlfliciohaebfaaGFnExactFirstHeadc
namespace Go.Proofs.YtlfliciohaebfaaG
open Go Go.Proofs.YtlfliciohaebfaaRv Go.RowKit
set_option linter.unusedVariables false
set_option linter.unusedSimpArgs false


theorem impl_within.ev (a b c : Int) : Ev (fun k => impl_within.f k a b c) (decide (b ≤ a ∧ a ≤ c)) := by
  refine ev_step ?_
  simp only [impl_within.f, impl_within.b]
  exact ev_ite (fun h => ev_some (by simp [h])) (fun h => ev_some (by simp [h]))
theorem spec_l01In.ev (a b c : Int) : Ev (fun k => spec_l01In.f k a b c) (decide (b ≤ a ∧ a ≤ c)) := by
  refine ev_step ?_
  simp only [spec_l01In.f, spec_l01In.b]
  exact ev_ite (fun h => ev_some (by simp [show b ≤ a from h])) (fun h => ev_some (by simp [show ¬ b ≤ a from h]))
theorem impl_isNum.ev (a : Int) : Ev (fun k => impl_isNum.f k a) (isNum a) := by
  refine ev_step ?_
  simp only [impl_isNum.f, impl_isNum.b]
  exact Ev.bind (impl_within.ev _ _ _) (ev_some rfl)
theorem spec_l01Num.ev (a : Int) : Ev (fun k => spec_l01Num.f k a) (isNum a) := by
  refine ev_step ?_
  simp only [spec_l01Num.f, spec_l01Num.b]
  exact Ev.bind (spec_l01In.ev _ _ _) (ev_some rfl)
theorem impl_copyBytes.ev (z : Bool) (l : List Int) (h : l.length ≤ 1073741824) : Ev (fun k => impl_copyBytes.f k z l) (false, l) := by
  refine ev_step ?_
  simp only [impl_copyBytes.f, impl_copyBytes.b]
  exact ev_pos (by omega) (ev_some (by simp))
theorem spec_l01Copy.ev (z : Bool) (l : List Int) (h : l.length ≤ 1073741824) : Ev (fun k => spec_l01Copy.f k z l) (false, l) := by
  refine ev_step ?_
  simp only [spec_l01Copy.f, spec_l01Copy.b]
  exact ev_pos (by omega) (ev_some (by simp))



structure Row where
  f0 : Int
  z : Bool
  f1 : List Int
instance : Inhabited Row := ⟨⟨0, false, []⟩⟩
def Row.t (r : Row) : T := .agg [.int .i64 r.f0, .nums 5 .u8 r.z r.f1]
theorem row_at {l : List Row} {i : Nat} (h : i < l.length) : (l.map Row.t).getD i .bad = (l[i]).t := by simp [List.getD_eq_getElem?_getD, h]
theorem Row.c0 (r : Row) : (r.t.cells.getD 0 .bad).toInt = r.f0 := rfl
theorem Row.c1z (r : Row) : (r.t.cells.getD 1 .bad).isNil = r.z := rfl
theorem Row.c1 (r : Row) : (r.t.cells.getD 1 .bad).toNums = r.f1 := rfl

def rowOk (r : Row) : Bool := decide (1 ≤ r.f0 ∧ r.f0 ≤ 1099511627776) && decide (1 ≤ r.f1.length ∧ r.f1.length ≤ 64)
def tabOk (l : List Row) : Bool := l.all rowOk && decide (1 ≤ l.length ∧ l.length ≤ 10)
theorem impl_TableOk.ev0 (z : Bool) (l : List Row) (h : l.length ≤ 1048576) : ∀ (d n : Nat), n + d = l.length → Ev (fun k => impl_TableOk.l0 k z (l.map Row.t) (l.length : Int) (n : Int) z (l.map Row.t)) ((l.drop n).all rowOk && decide (1 ≤ l.length ∧ l.length ≤ 10))
  | 0, n, hn => by
    refine ev_step ?_
    simp only [impl_TableOk.l0, impl_TableOk.l0b]
    refine ev_neg (by omega) (Ev.bind (impl_within.ev _ _ _) (ev_some ?_))
    rw [List.drop_of_length_le (by omega), List.length_map]
    have e : (1 ≤ (l.length : Int) ∧ (l.length : Int) ≤ 10) ↔ (1 ≤ l.length ∧ l.length ≤ 10) := by omega
    simp [e]
  | d + 1, n, hn => by
    have hlt : n < l.length := by omega
    refine ev_step ?_
    simp only [impl_TableOk.l0, impl_TableOk.l0b, Int.toNat_natCast, row_at hlt, Row.c0, Row.c1, List.length_map]
    refine ev_pos (by omega) (ev_pos (by omega) (ev_pos (by omega) (Ev.bind (impl_within.ev _ _ _) ?_)))
    rw [List.drop_eq_getElem_cons hlt, List.all_cons]
    refine ev_ite (fun c1 => ev_some ?_) (fun c1 => Ev.bind (impl_within.ev _ _ _) (ev_ite (fun c2 => ev_some ?_) (fun c2 => ?_)))
    · simp at c1
      have : ¬ (1 ≤ (l[n]).f0 ∧ (l[n]).f0 ≤ 1099511627776) := by omega
      simp [rowOk, this]
    · simp at c2
      have : ¬ (1 ≤ (l[n]).f1.length ∧ (l[n]).f1.length ≤ 64) := by omega
      simp [rowOk, this]
    · rw [w64s (by omega)]
      have ih := impl_TableOk.ev0 z l h d (n + 1) (by omega)
      refine ev_to ih ?_
      simp at c1 c2
      have c3 : 1 ≤ (l[n]).f1.length ∧ (l[n]).f1.length ≤ 64 := by omega
      simp [rowOk, c1, c3]
theorem impl_TableOk.ev (z : Bool) (l : List Row) (h : l.length ≤ 1048576) : Ev (fun k => impl_TableOk.f k z (l.map Row.t)) (tabOk l) := by
  refine ev_step ?_
  simp only [impl_TableOk.f, impl_TableOk.b, List.length_map]
  exact ev_to (impl_TableOk.ev0 z l h l.length 0 (by omega)) (by simp [tabOk])
theorem spec_l02Signers.ev (a : Int) : Ev (fun k => spec_l02Signers.f k a) (decide (1 ≤ a ∧ a ≤ 10)) := by
  refine ev_step ?_
  simp only [spec_l02Signers.f, spec_l02Signers.b]
  exact Ev.bind (spec_l01In.ev _ _ _) (ev_some rfl)
theorem spec_TableOk.ev0 (z : Bool) (l : List Row) (h : l.length ≤ 1048576) : ∀ (d n : Nat), n + d = l.length → Ev (fun k => spec_TableOk.l0 k z (l.map Row.t) (l.length : Int) (n : Int) z (l.map Row.t)) ((l.drop n).all rowOk && decide (1 ≤ l.length ∧ l.length ≤ 10))
  | 0, n, hn => by
    refine ev_step ?_
    simp only [spec_TableOk.l0, spec_TableOk.l0b]
    refine ev_neg (by omega) (Ev.bind (spec_l02Signers.ev _) (ev_some ?_))
    rw [List.drop_of_length_le (by omega), List.length_map]
    have e : (1 ≤ (l.length : Int) ∧ (l.length : Int) ≤ 10) ↔ (1 ≤ l.length ∧ l.length ≤ 10) := by omega
    simp [e]
  | d + 1, n, hn => by
    have hlt : n < l.length := by omega
    refine ev_step ?_
    simp only [spec_TableOk.l0, spec_TableOk.l0b, Int.toNat_natCast, row_at hlt, Row.c0, Row.c1, List.length_map]
    refine ev_pos (by omega) (ev_pos (by omega) (ev_pos (by omega) (Ev.bind (spec_l01In.ev _ _ _) ?_)))
    rw [List.drop_eq_getElem_cons hlt, List.all_cons]
    refine ev_ite (fun c1 => ev_some ?_) (fun c1 => Ev.bind (spec_l01In.ev _ _ _) (ev_ite (fun c2 => ev_some ?_) (fun c2 => ?_)))
    · simp at c1
      have : ¬ (1 ≤ (l[n]).f0 ∧ (l[n]).f0 ≤ 1099511627776) := by omega
      simp [rowOk, this]
    · simp at c2
      have : ¬ (1 ≤ (l[n]).f1.length ∧ (l[n]).f1.length ≤ 64) := by omega
      simp [rowOk, this]
    · rw [w64s (by omega)]
      have ih := spec_TableOk.ev0 z l h d (n + 1) (by omega)
      refine ev_to ih ?_
      simp at c1 c2
      have c3 : 1 ≤ (l[n]).f1.length ∧ (l[n]).f1.length ≤ 64 := by omega
      simp [rowOk, c1, c3]
theorem spec_TableOk.ev (z : Bool) (l : List Row) (h : l.length ≤ 1048576) : Ev (fun k => spec_TableOk.f k z (l.map Row.t)) (tabOk l) := by
  refine ev_step ?_
  simp only [spec_TableOk.f, spec_TableOk.b, List.length_map]
  exact ev_to (spec_TableOk.ev0 z l h l.length 0 (by omega)) (by simp [tabOk])
theorem impl_SameBytes.ev (y z : Bool) (a b : List Int) : Ev (fun k => impl_SameBytes.f k y a z b) (sameB a b) := by
  refine ev_step ?_
  simp only [impl_SameBytes.f, impl_SameBytes.b]
  exact ev_some rfl
theorem spec_SameBytes.ev (y z : Bool) (a b : List Int) : Ev (fun k => spec_SameBytes.f k y a z b) (sameB a b) := by
  refine ev_step ?_
  simp only [spec_SameBytes.f, spec_SameBytes.b]
  exact ev_some rfl
end Go.Proofs.YtlfliciohaebfaaG
namespace Go.Proofs.YtlfliciohaebfaaG
open Go Go.Proofs.YtlfliciohaebfaaRv Go.RowKit
set_option linter.unusedVariables false
set_option linter.unusedSimpArgs false


theorem rdI_nat {l : List Int} {n : Nat} (h : n < l.length) : rdI l (n : Int) = l[n] := by simp [rdI, h]
def bytesOk (b : List Int) : Prop := ∀ x ∈ b, 0 ≤ x ∧ x < 256

end Go.Proofs.YtlfliciohaebfaaG
namespace Go.Proofs.YtlfliciohaebfaaG
open Go Go.Proofs.YtlfliciohaebfaaRv Go.RowKit
set_option linter.unusedVariables false
set_option linter.unusedSimpArgs false

section
variable (y0 y1 y2 : Bool) (h b : List Int)



end
end Go.Proofs.YtlfliciohaebfaaG
namespace Go.Proofs.YtlfliciohaebfaaG
open Go Go.Proofs.YtlfliciohaebfaaRv Go.RowKit
set_option linter.unusedVariables false
set_option linter.unusedSimpArgs false


section
variable (z : Bool) (l : List Int)
end


theorem succ_nat (i : Nat) (h : i ≤ 1000000000) : wrap64 ((i : Int) + 1) = ((i + 1 : Nat) : Int) := by unfold wrap64; omega

end Go.Proofs.YtlfliciohaebfaaG
namespace Go.Proofs.YtlfliciohaebfaaG
open Go Go.Proofs.YtlfliciohaebfaaRv Go.RowKit
set_option linter.unusedVariables false
set_option linter.unusedSimpArgs false


def Row.ok (r : Row) : Prop := r.f1.length ≤ 1048576 ∧ bytesOk r.f1
def Rows (l : List Row) : Prop := l.length ≤ 1048576 ∧ ∀ r ∈ l, r.ok
theorem laws_szByteS.ev (z : Bool) (l : List Int) (h : l.length ≤ 9223372036854775807) (a : Int) (h0 : 0 ≤ a) (h1 : a ≤ 1048576) : ∃ r, Ev (fun k => laws_szByteS.f k z l a) r ∧ SzR (okB l) a r := by
  have e : wrap64 (a - (l.length : Int)) = a - (l.length : Int) := w64 (by omega) (by omega)
  by_cases c : (l.length : Int) ≤ a
  · refine ⟨a - l.length, ev_step ?_, Or.inr ⟨by omega, by omega, by unfold okB; omega⟩⟩
    simp only [laws_szByteS.f, laws_szByteS.b, e]
    clear e
    exact ev_neg (by omega) (ev_some rfl)
  · refine ⟨-1, ev_step ?_, Or.inl rfl⟩
    simp only [laws_szByteS.f, laws_szByteS.b, e]
    clear e
    exact ev_pos (by omega) (ev_some rfl)
def Row.fit (r : Row) : Prop := r.f1.length ≤ 9223372036854775807
theorem laws_szRow.ev (r : Row) (h : r.fit) (a : Int) (h0 : 0 ≤ a) (h1 : a ≤ 1048576) : ∃ q, Ev (fun k => laws_szRow.f k r.f0 r.z r.f1 a) q ∧ SzR (okB r.f1) a q := by
  obtain ⟨q, e, s⟩ := laws_szByteS.ev r.z r.f1 h a h0 h1
  rcases s with rfl | ⟨s1, s2, s3⟩
  · refine ⟨-1, ev_step ?_, Or.inl rfl⟩
    simp only [laws_szRow.f, laws_szRow.b]
    exact Ev.bind e (ev_pos (by omega) (ev_some rfl))
  · refine ⟨q, ev_step ?_, Or.inr ⟨s1, s2, s3⟩⟩
    simp only [laws_szRow.f, laws_szRow.b]
    exact Ev.bind e (ev_neg (by omega) (ev_some rfl))
theorem laws_szRowS.ev0 (z : Bool) (l : List Row) (hl : l.length ≤ 1048576) (h : ∀ r ∈ l, r.fit) : ∀ (d n : Nat) (a : Int), n + d = l.length → 0 ≤ a → a ≤ 1048576 → ∃ q, Ev (fun k => laws_szRowS.l0 k z (l.map Row.t) a (n : Int)) q ∧ SzR (∀ r ∈ l.drop n, okB r.f1) a q
  | 0, n, a, hn, h0, h1 => by
    refine ⟨a, ev_step ?_, Or.inr ⟨h0, by omega, fun r hr => ?_⟩⟩
    · simp only [laws_szRowS.l0, laws_szRowS.l0b, List.length_map]
      exact ev_neg (by omega) (ev_some rfl)
    · rw [List.drop_of_length_le (by omega)] at hr; cases hr
  | d + 1, n, a, hn, h0, h1 => by
    have hlt : n < l.length := by omega
    obtain ⟨q, e, s⟩ := laws_szRow.ev l[n] (h _ (List.getElem_mem hlt)) a h0 h1
    rcases s with rfl | ⟨s1, s2, s3⟩
    · refine ⟨-1, ev_step ?_, Or.inl rfl⟩
      simp only [laws_szRowS.l0, laws_szRowS.l0b, List.length_map, Int.toNat_natCast, row_at hlt, Row.c0, Row.c1, Row.c1z]
      exact ev_pos (by omega) (ev_pos (by omega) (ev_pos (by omega) (Ev.bind e (ev_pos (by omega) (ev_some rfl)))))
    · obtain ⟨p, e2, s'⟩ := laws_szRowS.ev0 z l hl h d (n + 1) q (by omega) s1 (by omega)
      refine ⟨p, ev_step ?_, ?_⟩
      · simp only [laws_szRowS.l0, laws_szRowS.l0b, List.length_map, Int.toNat_natCast, row_at hlt, Row.c0, Row.c1, Row.c1z, succ_nat n (by omega)]
        exact ev_pos (by omega) (ev_pos (by omega) (ev_pos (by omega) (Ev.bind e (ev_neg (by omega) e2))))
      · rcases s' with rfl | ⟨t1, t2, t3⟩
        · exact Or.inl rfl
        · refine Or.inr ⟨t1, by omega, fun r hr => ?_⟩
          rw [List.drop_eq_getElem_cons hlt] at hr
          rcases List.mem_cons.1 hr with rfl | hr
          · exact s3
          · exact t3 r hr
def Fit (l : List Row) : Prop := l.length ≤ 9223372036854775807 ∧ ∀ r ∈ l, r.fit
def Few (l : List Row) : Prop := l.length ≤ 1048576 ∧ ∀ r ∈ l, okB r.f1
theorem laws_szRowS.ev (z : Bool) (l : List Row) (h : Fit l) (a : Int) (h0 : 0 ≤ a) (h1 : a ≤ 1048576) : ∃ q, Ev (fun k => laws_szRowS.f k z (l.map Row.t) a) q ∧ SzR (Few l) a q := by
  have hl := h.1
  have e : wrap64 (a - (l.length : Int)) = a - (l.length : Int) := w64 (by omega) (by omega)
  by_cases c : (l.length : Int) ≤ a
  · obtain ⟨q, e2, s⟩ := laws_szRowS.ev0 z l (by clear e; omega) h.2 l.length 0 (a - l.length) (by omega) (by clear e; omega) (by clear e; omega)
    refine ⟨q, ev_step ?_, ?_⟩
    · simp only [laws_szRowS.f, laws_szRowS.b, List.length_map, e]
      clear e
      exact ev_neg (by omega) e2
    · clear e
      rcases s with rfl | ⟨t1, t2, t3⟩
      · exact Or.inl rfl
      · exact Or.inr ⟨t1, by omega, by omega, t3⟩
  · refine ⟨-1, ev_step ?_, Or.inl rfl⟩
    simp only [laws_szRowS.f, laws_szRowS.b, List.length_map, e]
    clear e
    exact ev_pos (by omega) (ev_some rfl)
theorem laws_szTable.ev (z : Bool) (l : List Row) (h : Fit l) (a : Int) (h0 : 0 ≤ a) (h1 : a ≤ 1048576) : ∃ q, Ev (fun k => laws_szTable.f k z (l.map Row.t) a) q ∧ SzR (Few l) a q := by
  obtain ⟨q, e, s⟩ := laws_szRowS.ev z l h a h0 h1
  rcases s with rfl | ⟨s1, s2, s3⟩
  · refine ⟨-1, ev_step ?_, Or.inl rfl⟩
    simp only [laws_szTable.f, laws_szTable.b]
    exact Ev.bind e (ev_pos (by omega) (ev_some rfl))
  · refine ⟨q, ev_step ?_, Or.inr ⟨s1, s2, s3⟩⟩
    simp only [laws_szTable.f, laws_szTable.b]
    exact Ev.bind e (ev_neg (by omega) (ev_some rfl))

theorem laws_toByteS.ev (z : Bool) (l : List Int) (h : okB l) : Ev (fun k => laws_toByteS.f k z l) (false, l) := by
  have hl : l.length ≤ 1048576 := h
  refine ev_step ?_
  simp only [laws_toByteS.f, laws_toByteS.b]
  refine ev_pos trivial (ev_pos (by omega) (ev_pos (by omega) ?_))
  have key : ∀ (d n : Nat) (ys : List Int), n + d = l.length → ys.length = l.length → ys.take n = l.take n → Ev (fun k => laws_toByteS.l0 k z l ys (n : Int)) (false, l) := by
    intro d
    induction d with
    | zero =>
      intro n ys hn hy ht
      refine ev_step ?_
      simp only [laws_toByteS.l0, laws_toByteS.l0b]
      refine ev_neg (by omega) (ev_some ?_)
      obtain rfl : n = l.length := by omega
      rw [List.take_length, ← hy, List.take_length] at ht
      rw [ht]
    | succ d ih =>
      intro n ys hn hy ht
      have hlt : n < l.length := by omega
      refine ev_step ?_
      have i2 := ih (n + 1) (ys.set n l[n]) (by omega) (by simp [hy]) (by
        rw [List.take_succ_eq_append_getElem (by simp; omega), List.take_succ_eq_append_getElem hlt, List.take_set_of_le (Nat.le_refl n), ht, List.getElem_set_self])
      simp only [laws_toByteS.l0, laws_toByteS.l0b, rdI_nat hlt, succ_nat n (by omega), Int.toNat_natCast]
      exact ev_pos (by omega) (ev_pos (by omega) (ev_pos (by omega) (ev_pos (by omega) (ev_pos (by omega) i2))))
  exact key l.length 0 _ (by omega) (by simp) (by simp)
def Row.cp (r : Row) : Row := ⟨r.f0, false, r.f1⟩
theorem laws_toRow.ev (r : Row) (h : okB r.f1) : Ev (fun k => laws_toRow.f k r.f0 r.z r.f1) (r.f0, false, r.f1) := by
  refine ev_step ?_
  simp only [laws_toRow.f, laws_toRow.b]
  exact Ev.bind (laws_toByteS.ev r.z r.f1 h) (ev_some rfl)
theorem laws_toRowS.ev (z : Bool) (l : List Row) (h : Few l) : Ev (fun k => laws_toRowS.f k z (l.map Row.t)) (false, (l.map Row.cp).map Row.t) := by
  have hl : l.length ≤ 1048576 := h.1
  refine ev_step ?_
  simp only [laws_toRowS.f, laws_toRowS.b, List.length_map]
  refine ev_pos trivial (ev_pos (by omega) (ev_pos (by omega) ?_))
  have key : ∀ (d n : Nat) (ys : List T), n + d = l.length → ys.length = l.length → ys.take n = ((l.map Row.cp).map Row.t).take n → Ev (fun k => laws_toRowS.l0 k z (l.map Row.t) ys (n : Int)) (false, (l.map Row.cp).map Row.t) := by
    intro d
    induction d with
    | zero =>
      intro n ys hn hy ht
      refine ev_step ?_
      simp only [laws_toRowS.l0, laws_toRowS.l0b, List.length_map]
      refine ev_neg (by omega) (ev_some ?_)
      rw [List.take_of_length_le (by omega), List.take_of_length_le (by simp; omega)] at ht
      rw [ht]
    | succ d ih =>
      intro n ys hn hy ht
      have hlt : n < l.length := by omega
      refine ev_step ?_
      have i2 := ih (n + 1) (ys.set n (l[n].cp).t) (by omega) (by simp [hy]) (by
        rw [List.take_succ_eq_append_getElem (by simp; omega), List.take_succ_eq_append_getElem (by simp; omega), List.take_set_of_le (Nat.le_refl n), ht, List.getElem_set_self]
        simp)
      simp only [laws_toRowS.l0, laws_toRowS.l0b, List.length_map, succ_nat n (by omega), Int.toNat_natCast, row_at hlt, Row.c0, Row.c1, Row.c1z]
      exact ev_pos (by omega) (ev_pos (by omega) (ev_pos (by omega) (Ev.bind (laws_toRow.ev l[n] (h.2 _ (List.getElem_mem hlt))) (ev_pos (by omega) (ev_pos (by omega) i2)))))
  exact key l.length 0 _ (by omega) (by simp) (by simp)
theorem laws_toTable.ev (z : Bool) (l : List Row) (h : Few l) : Ev (fun k => laws_toTable.f k z (l.map Row.t)) (false, (l.map Row.cp).map Row.t) := by
  refine ev_step ?_
  simp only [laws_toTable.f, laws_toTable.b]
  exact Ev.bind (laws_toRowS.ev z l h) (ev_some rfl)

theorem laws_eqByteS.ev (y z : Bool) (l : List Int) (h : okB l) : Ev (fun k => laws_eqByteS.f k y l z l) true := by
  have hl : l.length ≤ 1048576 := h
  refine ev_step ?_
  simp only [laws_eqByteS.f, laws_eqByteS.b]
  refine ev_neg (by simp) ?_
  have key : ∀ (d n : Nat), n + d = l.length → Ev (fun k => laws_eqByteS.l0 k y l z l (n : Int)) true := by
    intro d
    induction d with
    | zero =>
      intro n hn
      refine ev_step ?_
      simp only [laws_eqByteS.l0, laws_eqByteS.l0b]
      exact ev_neg (by omega) (ev_some rfl)
    | succ d ih =>
      intro n hn
      refine ev_step ?_
      simp only [laws_eqByteS.l0, laws_eqByteS.l0b, succ_nat n (by omega)]
      exact ev_pos (by omega) (ev_pos (by omega) (ev_pos (by omega) (ev_pos (by omega) (ev_pos (by omega) (ev_neg (by simp) (ih (n + 1) (by omega)))))))
  exact key l.length 0 (by omega)
theorem laws_eqRow.ev (r : Row) (h : okB r.f1) : Ev (fun k => laws_eqRow.f k r.f0 r.z r.f1 r.f0 r.z r.f1) true := by
  refine ev_step ?_
  simp only [laws_eqRow.f, laws_eqRow.b]
  exact ev_neg (by simp) (Ev.bind (laws_eqByteS.ev _ _ _ h) (ev_neg (by simp) (ev_some rfl)))
theorem laws_eqRowS.ev (y z : Bool) (l : List Row) (h : Few l) : Ev (fun k => laws_eqRowS.f k y (l.map Row.t) z (l.map Row.t)) true := by
  have hl : l.length ≤ 1048576 := h.1
  refine ev_step ?_
  simp only [laws_eqRowS.f, laws_eqRowS.b]
  refine ev_neg (by simp) ?_
  have key : ∀ (d n : Nat), n + d = l.length → Ev (fun k => laws_eqRowS.l0 k y (l.map Row.t) z (l.map Row.t) (n : Int)) true := by
    intro d
    induction d with
    | zero =>
      intro n hn
      refine ev_step ?_
      simp only [laws_eqRowS.l0, laws_eqRowS.l0b, List.length_map]
      exact ev_neg (by omega) (ev_some rfl)
    | succ d ih =>
      intro n hn
      have hlt : n < l.length := by omega
      refine ev_step ?_
      simp only [laws_eqRowS.l0, laws_eqRowS.l0b, List.length_map, Int.toNat_natCast, row_at hlt, Row.c0, Row.c1, Row.c1z, succ_nat n (by omega)]
      exact ev_pos (by omega) (ev_pos (by omega) (ev_pos (by omega) (ev_pos (by omega) (ev_pos (by omega) (Ev.bind (laws_eqRow.ev l[n] (h.2 _ (List.getElem_mem hlt))) (ev_neg (by simp) (ih (n + 1) (by omega))))))))
  exact key l.length 0 (by omega)
theorem laws_eqTable.ev (y z : Bool) (l : List Row) (h : Few l) : Ev (fun k => laws_eqTable.f k y (l.map Row.t) z (l.map Row.t)) true := by
  refine ev_step ?_
  simp only [laws_eqTable.f, laws_eqTable.b]
  exact Ev.bind (laws_eqRowS.ev y z l h) (ev_neg (by simp) (ev_some rfl))

theorem few_cp {l : List Row} (h : Few l) : Few (l.map Row.cp) := ⟨by simpa using h.1, fun r hr => by
  obtain ⟨x, hx, rfl⟩ := List.mem_map.1 hr
  exact h.2 x hx⟩
end Go.Proofs.YtlfliciohaebfaaG
namespace Go.Proofs.YtlfliciohaebfaaG
open Go Go.Proofs.YtlfliciohaebfaaRv Go.RowKit
set_option linter.unusedVariables false
set_option linter.unusedSimpArgs false

theorem spec_l07Hash.ev (z : Bool) (l : List Int) : Ev (fun k => spec_l07Hash.f k z l) (decide (l.length = 32)) := by
  refine ev_step ?_
  simp only [spec_l07Hash.f, spec_l07Hash.b]
  refine ev_some ?_
  have : ((l.length : Int) = 32) ↔ l.length = 32 := by omega
  simp [this]
theorem impl_areHashes.ev1 (y z : Bool) (l : List Int) : Ev (fun k => impl_areHashes.f k y [.nums 5 .u8 z l]) (decide (l.length = 32)) := by
  refine ev_step ?_
  simp only [impl_areHashes.f, impl_areHashes.b]
  refine ev_step ?_
  simp only [impl_areHashes.l0, impl_areHashes.l0b]
  refine ev_pos (by simp) (ev_pos (by simp) (ev_pos (by simp) ?_))
  have e : (((([.nums 5 .u8 z l] : List T).getD (0 : Int).toNat .bad).cells.getD 0 .bad).toNums) = l := rfl
  rw [e]
  refine ev_ite (fun c => ev_some ?_) (fun c => ?_)
  · have : ¬ l.length = 32 := fun h => c (by omega)
    simp [this]
  · have c' : l.length = 32 := by
      have : (l.length : Int) = 32 := by simpa using c
      omega
    refine ev_step ?_
    simp only [impl_areHashes.l0, impl_areHashes.l0b]
    refine ev_neg (by have : wrap64 ((0 : Int) + 1) = 1 := by unfold wrap64; omega
                      rw [this]; simp) (ev_some (by simp [c']))
end Go.Proofs.YtlfliciohaebfaaG
namespace Go.Proofs.YtlfliciohaebfaaG
open Go Go.Proofs.YtlfliciohaebfaaRv Go.RowKit
set_option linter.unusedVariables false
set_option linter.unusedSimpArgs false

structure By where
  z : Bool
  l : List Int
instance : Inhabited By := ⟨⟨false, []⟩⟩
def By.t (b : By) : T := .nums 5 .u8 b.z b.l
def By.cp (b : By) : By := ⟨false, b.l⟩
theorem by_at {l : List By} {i : Nat} (h : i < l.length) : (l.map By.t).getD i .bad = (l[i]).t := by simp [List.getD_eq_getElem?_getD, h]
theorem By.c0z (b : By) : (b.t.cells.getD 0 .bad).isNil = b.z := rfl
theorem By.c0 (b : By) : (b.t.cells.getD 0 .bad).toNums = b.l := rfl
def FitB (l : List By) : Prop := l.length ≤ 9223372036854775807 ∧ ∀ b ∈ l, b.l.length ≤ 9223372036854775807
def FewB (l : List By) : Prop := l.length ≤ 1048576 ∧ ∀ b ∈ l, okB b.l
theorem fewB_cp {l : List By} (h : FewB l) : FewB (l.map By.cp) := ⟨by simpa using h.1, fun r hr => by
  obtain ⟨x, hx, rfl⟩ := List.mem_map.1 hr
  exact h.2 x hx⟩
theorem laws_eqByteSS.ev (y z : Bool) (l : List By) (h : FewB l) : Ev (fun k => laws_eqByteSS.f k y (l.map By.t) z (l.map By.t)) true := by
  have hl : l.length ≤ 1048576 := h.1
  refine ev_step ?_
  simp only [laws_eqByteSS.f, laws_eqByteSS.b]
  refine ev_neg (by simp) ?_
  have key : ∀ (d n : Nat), n + d = l.length → Ev (fun k => laws_eqByteSS.l0 k y (l.map By.t) z (l.map By.t) (n : Int)) true := by
    intro d
    induction d with
    | zero =>
      intro n hn
      refine ev_step ?_
      simp only [laws_eqByteSS.l0, laws_eqByteSS.l0b, List.length_map]
      exact ev_neg (by omega) (ev_some rfl)
    | succ d ih =>
      intro n hn
      have hlt : n < l.length := by omega
      refine ev_step ?_
      simp only [laws_eqByteSS.l0, laws_eqByteSS.l0b, List.length_map, Int.toNat_natCast, by_at hlt, By.c0, By.c0z, succ_nat n (by omega)]
      exact ev_pos (by omega) (ev_pos (by omega) (ev_pos (by omega) (ev_pos (by omega) (ev_pos (by omega) (Ev.bind (laws_eqByteS.ev _ _ _ (h.2 _ (List.getElem_mem hlt))) (ev_neg (by simp) (ih (n + 1) (by omega))))))))
  exact key l.length 0 (by omega)
theorem getD_in {α : Type} [Inhabited α] {l : List α} {n : Nat} (h : n < l.length) : l.getD n default = l[n] := by simp [h]
structure QcV where
  v : Int
  h : Int
  bz : Bool
  blk : List Int
  mz : Bool
  bits : List Int
  tz : Bool
  tags : List By
structure Head where
  v : Int
  h : Int
  p : Int
  az : Bool
  par : List Int
  rz : Bool
  root : List Int
  q : QcV
instance : Inhabited Head := ⟨⟨0, 0, 0, false, [], false, [], ⟨0, 0, false, [], false, [], false, []⟩⟩⟩
def Head.t (x : Head) : T := .agg [.int .i64 x.v, .int .i64 x.h, .int .i64 x.p, .nums 5 .u8 x.az x.par, .nums 5 .u8 x.rz x.root, .int .i64 x.q.v, .int .i64 x.q.h, .nums 5 .u8 x.q.bz x.q.blk, .nums 5 .u8 x.q.mz x.q.bits, .sl 22 x.q.tz (x.q.tags.map By.t)]
section
variable (x : Head)
theorem Head.c0 : (x.t.cells.getD 0 .bad).toInt = x.v := rfl
theorem Head.c1 : (x.t.cells.getD 1 .bad).toInt = x.h := rfl
theorem Head.c2 : (x.t.cells.getD 2 .bad).toInt = x.p := rfl
theorem Head.c3 : (x.t.cells.getD 3 .bad).toNums = x.par := rfl
theorem Head.c4 : (x.t.cells.getD 4 .bad).toNums = x.root := rfl
theorem Head.c5 : (x.t.cells.getD 5 .bad).toInt = x.q.v := rfl
theorem Head.c6 : (x.t.cells.getD 6 .bad).toInt = x.q.h := rfl
end
def QcV.cp (q : QcV) : QcV := ⟨q.v, q.h, false, q.blk, false, q.bits, false, q.tags.map By.cp⟩
def Head.cp (x : Head) : Head := ⟨x.v, x.h, x.p, false, x.par, false, x.root, x.q.cp⟩
def QcV.fit (q : QcV) : Prop := q.blk.length ≤ 9223372036854775807 ∧ q.bits.length ≤ 9223372036854775807 ∧ FitB q.tags
def QcV.few (q : QcV) : Prop := okB q.blk ∧ okB q.bits ∧ FewB q.tags
def Head.fit (x : Head) : Prop := x.par.length ≤ 9223372036854775807 ∧ x.root.length ≤ 9223372036854775807 ∧ x.q.fit
def Head.few (x : Head) : Prop := okB x.par ∧ okB x.root ∧ x.q.few
theorem Head.few_cp {x : Head} (h : x.few) : x.cp.few := ⟨h.1, h.2.1, h.2.2.1, h.2.2.2.1, fewB_cp h.2.2.2.2⟩
def FitH (l : List Head) : Prop := l.length ≤ 9223372036854775807 ∧ ∀ x ∈ l, x.fit
def FewH (l : List Head) : Prop := l.length ≤ 1048576 ∧ ∀ x ∈ l, x.few
theorem laws_eqQc.ev (q : QcV) (h : q.few) : Ev (fun k => laws_eqQc.f k q.v q.h q.bz q.blk q.mz q.bits q.tz (q.tags.map By.t) q.v q.h q.bz q.blk q.mz q.bits q.tz (q.tags.map By.t)) true := by
  refine ev_step ?_
  simp only [laws_eqQc.f, laws_eqQc.b]
  exact ev_neg (by simp) (ev_neg (by simp) (Ev.bind (laws_eqByteS.ev _ _ _ h.1) (ev_neg (by simp) (Ev.bind (laws_eqByteS.ev _ _ _ h.2.1) (ev_neg (by simp) (Ev.bind (laws_eqByteSS.ev _ _ _ h.2.2) (ev_neg (by simp) (ev_some rfl))))))))
theorem laws_eqHead.ev (x : Head) (h : x.few) : Ev (fun k => laws_eqHead.f k x.v x.h x.p x.az x.par x.rz x.root x.q.v x.q.h x.q.bz x.q.blk x.q.mz x.q.bits x.q.tz (x.q.tags.map By.t) x.v x.h x.p x.az x.par x.rz x.root x.q.v x.q.h x.q.bz x.q.blk x.q.mz x.q.bits x.q.tz (x.q.tags.map By.t)) true := by
  refine ev_step ?_
  simp only [laws_eqHead.f, laws_eqHead.b]
  exact ev_neg (by simp) (ev_neg (by simp) (ev_neg (by simp) (Ev.bind (laws_eqByteS.ev _ _ _ h.1) (ev_neg (by simp) (Ev.bind (laws_eqByteS.ev _ _ _ h.2.1) (ev_neg (by simp) (Ev.bind (laws_eqQc.ev _ h.2.2) (ev_neg (by simp) (ev_some rfl)))))))))
end Go.Proofs.YtlfliciohaebfaaG
namespace Go.Proofs.YtlfliciohaebfaaG
open Go Go.Proofs.YtlfliciohaebfaaRv Go.RowKit
set_option linter.unusedVariables false
set_option linter.unusedSimpArgs false

structure Light where
  l0 : Int
  l1 : Int
  l2 : Int
  l3 : Int
  l4 : Int
  rz : Bool
  rows : List Row
  skip : Int
  bz : Bool
  buf : List Int
  cz : Bool
  chain : List Head
def Light.cp (x : Light) : Light := ⟨x.l0, x.l1, x.l2, x.l3, x.l4, false, x.rows.map Row.cp, x.skip, false, x.buf, false, x.chain.map Head.cp⟩
def Light.fit (x : Light) : Prop := Fit x.rows ∧ x.buf.length ≤ 9223372036854775807 ∧ FitH x.chain
def Light.few (x : Light) : Prop := Few x.rows ∧ okB x.buf ∧ FewH x.chain
theorem laws_toLimits.ev (a b c d e : Int) : Ev (fun k => laws_toLimits.f k a b c d e) (a, b, c, d, e) := by
  refine ev_step ?_
  simp only [laws_toLimits.f, laws_toLimits.b]
  exact ev_some rfl
end Go.Proofs.YtlfliciohaebfaaG
namespace Go.Proofs.YtlfliciohaebfaaG
open Go Go.Proofs.YtlfliciohaebfaaRv Go.RowKit
set_option linter.unusedVariables false
set_option linter.unusedSimpArgs false

structure Sl (α : Type) where
  z : Bool
  l : List α
def goodI (n : Int) : Prop := (Lit.int .i64 n).wf = true
def By.good (b : By) : Prop := b.l.length ≤ 9223372036854775807 ∧ ∀ n ∈ b.l, (Lit.int .u8 n).wf = true
def GoodL {α : Type} (g : α → Prop) (l : List α) : Prop := l.length ≤ 9223372036854775807 ∧ ∀ x ∈ l, g x
def Row.good (r : Row) : Prop := goodI r.f0 ∧ By.good ⟨r.z, r.f1⟩
def Tab.good (x : Sl Row) : Prop := GoodL Row.good x.l
def QcV.good (q : QcV) : Prop := goodI q.v ∧ goodI q.h ∧ By.good ⟨q.bz, q.blk⟩ ∧ By.good ⟨q.mz, q.bits⟩ ∧ GoodL By.good q.tags
def Head.good (h : Head) : Prop := goodI h.v ∧ goodI h.h ∧ goodI h.p ∧ By.good ⟨h.az, h.par⟩ ∧ By.good ⟨h.rz, h.root⟩ ∧ h.q.good
theorem By.bytes {b : By} (h : b.good) : bytesOk b.l := fun x hx => wf8 (h.2 x hx)
theorem goodI_bd {n : Int} (h : goodI n) : -9223372036854775808 ≤ n ∧ n ≤ 9223372036854775807 := wf64 h
theorem fit_rows {l : List Row} (h : GoodL Row.good l) : Fit l := ⟨h.1, fun r hr => (h.2 r hr).2.1⟩
theorem bytes_rows {l : List Row} (h : GoodL Row.good l) : ∀ r ∈ l, bytesOk r.f1 := fun r hr x hx => wf8 ((h.2 r hr).2.2 x hx)
def BytesL (l : List By) : Prop := ∀ b ∈ l, bytesOk b.l
def QcV.byt (q : QcV) : Prop := bytesOk q.blk ∧ bytesOk q.bits ∧ BytesL q.tags
def Head.byt (h : Head) : Prop := bytesOk h.par ∧ bytesOk h.root ∧ h.q.byt
structure Vt where
  v : Int
  h : Int
  bz : Bool
  blk : List Int
  who : Int
  tz : Bool
  tag : List Int
instance : Inhabited Vt := ⟨⟨0, 0, false, [], 0, false, []⟩⟩
def Vt.t (x : Vt) : T := .agg [.int .i64 x.v, .int .i64 x.h, .nums 5 .u8 x.bz x.blk, .int .i64 x.who, .nums 5 .u8 x.tz x.tag]
theorem Vt.c0 (x : Vt) : (x.t.cells.getD 0 .bad).toInt = x.v := rfl
theorem Vt.c1 (x : Vt) : (x.t.cells.getD 1 .bad).toInt = x.h := rfl
theorem Vt.c2 (x : Vt) : (x.t.cells.getD 2 .bad).toNums = x.blk := rfl
theorem Vt.c3 (x : Vt) : (x.t.cells.getD 3 .bad).toInt = x.who := rfl
theorem Vt.c4 (x : Vt) : (x.t.cells.getD 4 .bad).toNums = x.tag := rfl
def Vt.good (x : Vt) : Prop := goodI x.v ∧ goodI x.h ∧ By.good ⟨x.bz, x.blk⟩ ∧ goodI x.who ∧ By.good ⟨x.tz, x.tag⟩
def Vt.cp (x : Vt) : Vt := ⟨x.v, x.h, false, x.blk, x.who, false, x.tag⟩
structure En where
  who : Int
  high : Int
  tz : Bool
  tag : List Int
instance : Inhabited En := ⟨⟨0, 0, false, []⟩⟩
def En.t (x : En) : T := .agg [.int .i64 x.who, .int .i64 x.high, .nums 5 .u8 x.tz x.tag]
theorem En.c0 (x : En) : (x.t.cells.getD 0 .bad).toInt = x.who := rfl
theorem En.c1 (x : En) : (x.t.cells.getD 1 .bad).toInt = x.high := rfl
theorem En.c2 (x : En) : (x.t.cells.getD 2 .bad).toNums = x.tag := rfl
def En.good (x : En) : Prop := goodI x.who ∧ goodI x.high ∧ By.good ⟨x.tz, x.tag⟩
def En.cp (x : En) : En := ⟨x.who, x.high, false, x.tag⟩

structure Lm where
  l0 : Int
  l1 : Int
  l2 : Int
  l3 : Int
  l4 : Int
def Lm.good (x : Lm) : Prop := goodI x.l0 ∧ goodI x.l1 ∧ goodI x.l2 ∧ goodI x.l3 ∧ goodI x.l4
structure TcV where
  v : Int
  ez : Bool
  ents : List En
def TcV.good (x : TcV) : Prop := goodI x.v ∧ GoodL En.good x.ents
structure Ps where
  skip : Int
  z : Bool
  buf : List Int
def Ps.good (x : Ps) : Prop := goodI x.skip ∧ By.good ⟨x.z, x.buf⟩
def Light.good (x : Light) : Prop := Lm.good ⟨x.l0, x.l1, x.l2, x.l3, x.l4⟩ ∧ GoodL Row.good x.rows ∧ Ps.good ⟨x.skip, x.bz, x.buf⟩ ∧ GoodL Head.good x.chain
structure Fo where
  l0 : Int
  l1 : Int
  l2 : Int
  l3 : Int
  l4 : Int
  hz : Bool
  heads : List Head
def Fo.good (x : Fo) : Prop := Lm.good ⟨x.l0, x.l1, x.l2, x.l3, x.l4⟩ ∧ GoodL Head.good x.heads
structure Pf where
  hz : Bool
  heads : List Head
  q : QcV
def Pf.good (x : Pf) : Prop := GoodL Head.good x.heads ∧ x.q.good
end Go.Proofs.YtlfliciohaebfaaG
namespace Go.Proofs.YtlfliciohaebfaaG
open Go Go.Proofs.YtlfliciohaebfaaRv Go.RowKit
set_option linter.unusedVariables false
set_option linter.unusedSimpArgs false

theorem tdiv_nat (n m : Nat) : Int.tdiv (n : Int) (m : Int) = ((n / m : Nat) : Int) := by
  rw [Int.tdiv_eq_ediv_of_nonneg (by omega)]
  exact (Int.natCast_ediv n m).symm
theorem tmod_nat (n m : Nat) : Int.tmod (n : Int) (m : Int) = ((n % m : Nat) : Int) := by
  rw [Int.tmod_eq_emod_of_nonneg (by omega)]
  exact (Int.natCast_emod n m).symm
theorem w64n {n : Nat} (h : n ≤ 9223372036854775807) : wrap64 (n : Int) = (n : Int) := w64 (by omega) (by omega)

def bitAt (b : List Int) (i : Nat) : Bool := rdI b ((i / 8 : Nat) : Int) / 2 ^ (i % 8) % 2 == 1
theorem bitAt_out {b : List Int} {i : Nat} (h : 8 * b.length ≤ i) : bitAt b i = false := by
  have : b.length ≤ i / 8 := by omega
  have e : rdI b ((i / 8 : Nat) : Int) = 0 := by
    unfold rdI
    rw [toNat_nat, List.getD_eq_getElem?_getD, List.getElem?_eq_none this]
    rfl
  unfold bitAt
  rw [e]
  simp
theorem rd_nice {l : List Int} (h : niceB l) (i : Int) : 0 ≤ rdI l i ∧ rdI l i < 256 := by
  unfold rdI
  rw [List.getD_eq_getElem?_getD]
  cases e : l[i.toNat]? with
  | none => simp
  | some x => exact h.2 x (List.mem_of_getElem? e)
theorem u8_and1 {x : Int} (h0 : 0 ≤ x) (h1 : x < 256) : Go.bits .and .u8 x 1 = x % 2 := bits_mask .u8 8 (by decide) wraps_u8 1 (by decide) x h0 h1
theorem div_pow_bd {x : Int} (h0 : 0 ≤ x) (h1 : x < 256) (m : Nat) : 0 ≤ x / 2 ^ m ∧ x / 2 ^ m < 256 := by
  have hp : (0 : Int) < 2 ^ m := Int.pow_pos (by decide)
  refine ⟨Int.ediv_nonneg h0 (Int.le_of_lt hp), ?_⟩
  have := Int.ediv_le_self (2 ^ m) h0
  omega

def bitsFrom (b : List Int) : Nat → Nat → List Nat
  | _, 0 => []
  | i, m + 1 => if bitAt b i = true then i :: bitsFrom b (i + 1) m else bitsFrom b (i + 1) m

def bitsList (b : List Int) : List Int := (bitsFrom b 0 (8 * b.length)).map fun (n : Nat) => (n : Int)
theorem bitsFrom_bd (b : List Int) : ∀ (m i : Nat) (x : Nat), x ∈ bitsFrom b i m → i ≤ x ∧ x < i + m
  | 0, i, x, h => by simp [bitsFrom] at h
  | m + 1, i, x, h => by
    unfold bitsFrom at h
    split at h
    · rcases List.mem_cons.1 h with rfl | h
      · omega
      · have := bitsFrom_bd b m (i + 1) x h
        omega
    · have := bitsFrom_bd b m (i + 1) x h
      omega
theorem bitsFrom_length (b : List Int) : ∀ (m i : Nat), (bitsFrom b i m).length ≤ m
  | 0, i => by simp [bitsFrom]
  | m + 1, i => by
    have := bitsFrom_length b m (i + 1)
    unfold bitsFrom
    split
    · simp only [List.length_cons]; omega
    · omega
theorem bitsList_length (b : List Int) : (bitsList b).length ≤ 8 * b.length := by
  unfold bitsList
  rw [List.length_map]
  exact bitsFrom_length b _ _
def bitsSize (n : Int) : Int := if n < 1 then 0 else (n - 1) / 8 + 1

def bitsOk (b : List Int) (n : Int) : Bool := decide (1 ≤ n ∧ n ≤ 10) && (decide ((b.length : Int) = bitsSize n) && (bitsList b).all fun i => decide (i < n))
theorem bitsFrom_last (b : List Int) : ∀ (m i : Nat) (h : bitsFrom b i m ≠ []), ∀ x ∈ bitsFrom b i m, x ≤ (bitsFrom b i m).getLast h
  | 0, i, h, x, hx => by simp [bitsFrom] at hx
  | m + 1, i, h, x, hx => by
    by_cases c : bitAt b i = true
    · have e : bitsFrom b i (m + 1) = i :: bitsFrom b (i + 1) m := by rw [bitsFrom, if_pos c]
      by_cases n : bitsFrom b (i + 1) m = []
      · have : bitsFrom b i (m + 1) = [i] := by rw [e, n]
        simp only [this, List.mem_singleton] at hx
        simp only [this, List.getLast_singleton]
        omega
      · have l : (bitsFrom b i (m + 1)).getLast h = (bitsFrom b (i + 1) m).getLast n := by simp only [e, List.getLast_cons n]
        rw [l]
        rw [e] at hx
        rcases List.mem_cons.1 hx with rfl | hx
        · have := bitsFrom_bd b m (x + 1) _ (List.getLast_mem n)
          omega
        · exact bitsFrom_last b m (i + 1) n x hx
    · have e : bitsFrom b i (m + 1) = bitsFrom b (i + 1) m := by rw [bitsFrom, if_neg c]
      have n : bitsFrom b (i + 1) m ≠ [] := by rw [← e]; exact h
      have l : (bitsFrom b i (m + 1)).getLast h = (bitsFrom b (i + 1) m).getLast n := by simp only [e]
      rw [l]
      rw [e] at hx
      exact bitsFrom_last b m (i + 1) n x hx
theorem bitsList_last (b : List Int) (h : bitsList b ≠ []) : ∀ x ∈ bitsList b, x ≤ (bitsList b).getLast h := by
  intro x hx
  have h' : bitsFrom b 0 (8 * b.length) ≠ [] := by intro e; apply h; simp [bitsList, e]
  have l : (bitsList b).getLast h = (((bitsFrom b 0 (8 * b.length)).getLast h' : Nat) : Int) := by simp only [bitsList, List.getLast_map]
  unfold bitsList at hx
  obtain ⟨n, hn, rfl⟩ := List.mem_map.1 hx
  have := bitsFrom_last b _ _ h' n hn
  rw [l]
  omega
theorem all_lt_last (b : List Int) (n : Int) : ((bitsList b).all fun i => decide (i < n)) = (if h : bitsList b = [] then true else decide ((bitsList b).getLast h < n)) := by
  split
  · rename_i h
    rw [h]
    rfl
  · rename_i h
    rw [Bool.eq_iff_iff, List.all_eq_true]
    simp only [decide_eq_true_eq]
    exact ⟨fun g => g _ (List.getLast_mem h), fun g x hx => by have := bitsList_last b h x hx; omega⟩

theorem bitAt_test {b : List Int} (h : niceB b) (i : Nat) : bitAt b i = (rdI b ((i / 8 : Nat) : Int)).toNat.testBit (i % 8) := by
  have q := rd_nice h ((i / 8 : Nat) : Int)
  unfold bitAt
  rw [Nat.testBit_eq_decide_div_mod_eq]
  obtain ⟨n, hn⟩ := Int.eq_ofNat_of_zero_le q.1
  rw [hn]
  have : ((n : Int) / 2 ^ (i % 8)) % 2 = ((n / 2 ^ (i % 8) % 2 : Nat) : Int) := by
    rw [Int.natCast_emod, Int.natCast_ediv, Int.natCast_pow]
    rfl
  rw [this, toNat_nat]
  by_cases c : n / 2 ^ (i % 8) % 2 = 1
  · rw [c]; rfl
  · rw [decide_eq_false c]
    have : n / 2 ^ (i % 8) % 2 = 0 := by omega
    rw [this]; rfl
theorem bitsSize_bd {n : Nat} (h1 : 1 ≤ n) (h2 : n ≤ 10) : 1 ≤ bitsSize (n : Int) ∧ bitsSize (n : Int) ≤ 2 ∧ (n : Int) ≤ 8 * bitsSize (n : Int) := by
  unfold bitsSize
  rw [if_neg (by omega)]
  omega
def bitCount (b : List Int) : Nat := (bitsFrom b 0 (8 * b.length)).length
def pop8 (n : Nat) : Nat := ((List.range 8).filter fun j => n.testBit j).length
theorem bitsFrom_count (b : List Int) : ∀ (m i : Nat), (bitsFrom b i m).length = ((List.range m).filter fun j => bitAt b (i + j)).length
  | 0, i => rfl
  | m + 1, i => by
    have ih := bitsFrom_count b m (i + 1)
    have e : ((List.range m).map (fun j => j + 1)).filter (fun j => bitAt b (i + j)) = ((List.range m).filter fun j => bitAt b (i + 1 + j)).map (fun j => j + 1) := by
      rw [List.filter_map]
      congr 1
      apply List.filter_congr
      intro x _
      show bitAt b (i + (x + 1)) = _
      congr 1
      omega
    rw [List.range_succ_eq_map]
    unfold bitsFrom
    show _ = (List.filter _ (0 :: (List.range m).map (fun j => j + 1))).length
    rw [List.filter_cons, e, Nat.add_zero]
    cases c : bitAt b i <;> simp [ih]
theorem bitsFrom_split (b : List Int) : ∀ (m i d : Nat), bitsFrom b i (m + d) = bitsFrom b i m ++ bitsFrom b (i + m) d
  | 0, i, d => by rw [Nat.zero_add]; rfl
  | m + 1, i, d => by
    have ih := bitsFrom_split b m (i + 1) d
    rw [show m + 1 + d = (m + d) + 1 by omega, show i + (m + 1) = i + 1 + m by omega]
    have e1 : bitsFrom b i ((m + d) + 1) = if bitAt b i = true then i :: bitsFrom b (i + 1) (m + d) else bitsFrom b (i + 1) (m + d) := rfl
    have e2 : bitsFrom b i (m + 1) = if bitAt b i = true then i :: bitsFrom b (i + 1) m else bitsFrom b (i + 1) m := rfl
    rw [e1, e2, ih]
    cases bitAt b i <;> simp
theorem pop_byte {b : List Int} (h : niceB b) {i : Nat} (hi : i < b.length) : (bitsFrom b (8 * i) 8).length = pop8 (b[i]).toNat := by
  rw [bitsFrom_count]
  unfold pop8
  congr 1
  apply List.filter_congr
  intro j hj
  have hj := List.mem_range.1 hj
  rw [bitAt_test h, show (8 * i + j) / 8 = i by omega, show (8 * i + j) % 8 = j by omega, rd_nat hi]


end Go.Proofs.YtlfliciohaebfaaG
namespace Go.Proofs.YtlfliciohaebfaaG
open Go Go.Proofs.YtlfliciohaebfaaRv Go.RowKit
set_option linter.unusedVariables false
set_option linter.unusedSimpArgs false


def okM (a : Int) : Prop := 0 ≤ a ∧ a ≤ 4611686018427387904
theorem mk8_rd {L : Nat} {a : Int} {i : Nat} (h : i < L) : rdI (mk8 L a) (i : Int) = (a + i) % 256 := mk8_get h
theorem wmk (a : Int) (h : okM a) (n : Nat) (hn : n ≤ 1099511627776) : wrap64 (a + (n : Int) + 1) = a + ((n + 1 : Nat) : Int) := by
  obtain ⟨h0, h1⟩ := h
  unfold wrap64; omega
theorem laws_markByteS.ev (z : Bool) (l : List Int) (h : okB l) (a : Int) (ha : okM a) : Ev (fun k => laws_markByteS.f k z l a) (a + l.length, z, mk8 l.length a) := by
  have hl : l.length ≤ 1048576 := h
  refine ev_step ?_
  simp only [laws_markByteS.f, laws_markByteS.b]
  have key : ∀ (d n : Nat) (ys : List Int), n + d = l.length → ys.length = l.length → ys.take n = (mk8 l.length a).take n → Ev (fun k => laws_markByteS.l0 k z ys (a + (n : Int)) (n : Int)) (a + l.length, z, mk8 l.length a) := by
    intro d
    induction d with
    | zero =>
      intro n ys hn hy ht
      refine ev_step ?_
      simp only [laws_markByteS.l0, laws_markByteS.l0b]
      refine ev_neg (by omega) (ev_some ?_)
      obtain rfl : n = l.length := by omega
      have e1 : (mk8 l.length a).take l.length = mk8 l.length a := List.take_of_length_le (by rw [mk8_length]; omega)
      rw [← hy, List.take_length, hy, e1] at ht
      rw [ht]
    | succ d ih =>
      intro n ys hn hy ht
      have hlt : n < l.length := by omega
      have hm : n < (mk8 l.length a).length := by rw [mk8_length]; exact hlt
      have i2 := ih (n + 1) (ys.set n ((a + (n : Int)) % 256)) (by omega) (by simp [hy]) (by
        rw [List.take_succ_eq_append_getElem (by simp; omega), List.take_succ_eq_append_getElem hm, List.take_set_of_le (Nat.le_refl n), ht, List.getElem_set_self]
        simp [mk8])
      refine ev_step ?_
      simp only [laws_markByteS.l0, laws_markByteS.l0b, Int.toNat_natCast, succ_nat n (by omega), wmk a ha n (by omega)]
      exact ev_pos (by omega) (ev_pos (by omega) (ev_pos (by omega) i2))
  have := key l.length 0 l (by omega) rfl (by simp)
  simpa using this
theorem laws_heldByteS.ev (z : Bool) (L : Nat) (h : L ≤ 1048576) (a : Int) (ha : okM a) : Ev (fun k => laws_heldByteS.f k z (mk8 L a) a) (a + L) := by
  refine ev_step ?_
  simp only [laws_heldByteS.f, laws_heldByteS.b]
  have key : ∀ (d n : Nat), n + d = L → Ev (fun k => laws_heldByteS.l0 k z (mk8 L a) (a + (n : Int)) (n : Int)) (a + L) := by
    intro d
    induction d with
    | zero =>
      intro n hn
      refine ev_step ?_
      simp only [laws_heldByteS.l0, laws_heldByteS.l0b, mk8_length]
      refine ev_neg (by omega) (ev_some ?_)
      obtain rfl : n = L := by omega
      rfl
    | succ d ih =>
      intro n hn
      have hlt : n < L := by omega
      refine ev_step ?_
      simp only [laws_heldByteS.l0, laws_heldByteS.l0b, mk8_length, mk8_rd hlt, succ_nat n (by omega), wmk a ha n (by omega)]
      exact ev_pos (by omega) (ev_pos (by omega) (ev_pos (by omega) (ev_neg (by simp) (ih (n + 1) (by omega)))))
  have := key L 0 (by omega)
  simpa using this


def CntR {α : Type} (a : Int) (m : Nat) (g : Nat → Option (Int × α)) : Prop := ∃ p, Ev g p ∧ a ≤ p.1 ∧ p.1 ≤ a + m
theorem getD_self {α : Type} {l : List α} {n : Nat} {d v : α} (h : n < l.length) : (l.set n v).getD n d = v := by simp [List.getD_eq_getElem?_getD, h]
theorem drop_set_lt {α : Type} {l : List α} {n m : Nat} {v : α} (h : n < m) : (l.set n v).drop m = l.drop m := List.drop_set_of_lt h
theorem getD_of_drop {α β : Type} {f : α → β} {ys : List β} {l : List α} {n : Nat} {d : β} (h : ys.drop n = (l.map f).drop n) (hn : n < l.length) : ys.getD n d = f l[n] := by
  have := congrArg (fun q => q[0]?) h
  simp only [List.getElem?_drop, Nat.add_zero] at this
  rw [List.getD_eq_getElem?_getD, this]
  simp [hn]
theorem laws_markRowS.ev (z : Bool) (l : List Row) (h : Few l) (a : Int) (h0 : 0 ≤ a) (h1 : a ≤ 1099511627776) : CntR a 1099512676352 (fun k => laws_markRowS.f k z (l.map Row.t) a) := by
  have hl : l.length ≤ 1048576 := h.1
  have key : ∀ (d n : Nat) (ys : List T) (c : Int), n + d = l.length → ys.length = l.length → ys.drop n = (l.map Row.t).drop n → a ≤ c → c ≤ a + ((n * 1048577 : Nat) : Int) → CntR c (d * 1048577) (fun k => laws_markRowS.l0 k z ys c (n : Int)) := by
    intro d
    induction d with
    | zero =>
      intro n ys c hn hy ht hc hc2
      refine ⟨(c, z, ys), ev_step ?_, Int.le_refl _, by simp⟩
      simp only [laws_markRowS.l0, laws_markRowS.l0b]
      exact ev_neg (by omega) (ev_some rfl)
    | succ d ih =>
      intro n ys c hn hy ht hc hc2
      have hlt : n < l.length := by omega
      have hg := getD_of_drop (d := T.bad) ht hlt
      have hb := h.2 _ (List.getElem_mem hlt)
      have hb' : (l[n]).f1.length ≤ 1048576 := hb
      have M := laws_markByteS.ev (l[n]).z (l[n]).f1 hb (c + 1) ⟨by omega, by omega⟩
      have ht' : ys.drop (n + 1) = (l.map Row.t).drop (n + 1) := by
        have := congrArg (List.drop 1) ht
        simpa [List.drop_drop] using this
      obtain ⟨p, e, p1, p2⟩ := ih (n + 1) ((ys.set n (.agg [.int .i64 c, .nums 5 .u8 (l[n]).z (l[n]).f1])).set n (.agg [.int .i64 c, .nums 5 .u8 (l[n]).z (mk8 (l[n]).f1.length (c + 1))])) (c + 1 + ((l[n]).f1.length : Int)) (by omega) (by simp [hy]) (by rw [drop_set_lt (by omega), drop_set_lt (by omega), ht']) (by omega) (by omega)
      refine ⟨p, ev_step ?_, by omega, by omega⟩
      have ew : wrap64 (c + 1) = c + 1 := w64 (by omega) (by omega)
      simp only [laws_markRowS.l0, laws_markRowS.l0b, Int.toNat_natCast, succ_nat n (by omega), hg, Row.c1, Row.c1z, ew, getD_self (show n < ys.length by omega), List.length_set]
      exact ev_pos (by omega) (ev_pos (by omega) (ev_pos (by omega) (ev_pos (by omega) (ev_pos (by omega) (Ev.bind M e)))))
  obtain ⟨p, e, p1, p2⟩ := key l.length 0 (l.map Row.t) a (by omega) (by simp) rfl (Int.le_refl _) (by omega)
  refine ⟨p, ev_step ?_, p1, ?_⟩
  · simp only [laws_markRowS.f, laws_markRowS.b]
    exact e
  · have : l.length * 1048577 ≤ 1048576 * 1048577 := Nat.mul_le_mul_right _ hl
    omega
theorem laws_markTable.ev (z : Bool) (l : List Row) (h : Few l) (a : Int) (h0 : 0 ≤ a) (h1 : a ≤ 1099511627776) : CntR a 1099512676352 (fun k => laws_markTable.f k z (l.map Row.t) a) := by
  obtain ⟨p, e, p1, p2⟩ := laws_markRowS.ev z l h a h0 h1
  refine ⟨(p.1, p.2.1, p.2.2), ev_step ?_, p1, p2⟩
  simp only [laws_markTable.f, laws_markTable.b]
  exact Ev.bind e (ev_some rfl)



end Go.Proofs.YtlfliciohaebfaaG
namespace Go.Proofs.YtlfliciohaebfaaG
open Go Go.Proofs.YtlfliciohaebfaaRv Go.RowKit
set_option linter.unusedVariables false
set_option linter.unusedSimpArgs false

theorem spec_LimitsOk.ev (a b c d e : Int) : Ev (fun k => spec_LimitsOk.f k a b c d e) (limitsOk a b c d e) := by
  refine ev_step ?_
  simp only [spec_LimitsOk.f, spec_LimitsOk.b]
  refine Ev.bind (spec_l02Signers.ev _) (ev_ite (fun c1 => Ev.bind (spec_l01In.ev _ _ _) (ev_ite (fun c2 => Ev.bind (spec_l01In.ev _ _ _) (ev_ite (fun c3 => Ev.bind (spec_l01In.ev _ _ _) (ev_ite (fun c4 => Ev.bind (spec_l01In.ev _ _ _) (ev_some ?_)) fun c4 => ev_some ?_)) fun c3 => ev_some ?_)) fun c2 => ev_some ?_)) fun c1 => ev_some ?_)
  all_goals (simp_all [limitsOk]; try omega)
theorem impl_LimitsOk.ev (a b c d e : Int) : Ev (fun k => impl_LimitsOk.f k a b c d e) (limitsOk a b c d e) := by
  refine ev_step ?_
  simp only [impl_LimitsOk.f, impl_LimitsOk.b]
  refine Ev.bind (impl_within.ev _ _ _) (ev_ite (fun c1 => Ev.bind (impl_within.ev _ _ _) (ev_ite (fun c2 => Ev.bind (impl_within.ev _ _ _) (ev_ite (fun c3 => Ev.bind (impl_within.ev _ _ _) (ev_ite (fun c4 => Ev.bind (impl_within.ev _ _ _) (ev_some ?_)) fun c4 => ev_some ?_)) fun c3 => ev_some ?_)) fun c2 => ev_some ?_)) fun c1 => ev_some ?_)
  all_goals (simp_all [limitsOk]; try omega)
def belongs (n tx txs fr hd : Int) (l : List Row) : Bool := limitsOk n tx txs fr hd && (tabOk l && decide ((l.length : Int) = n))
theorem impl_belongs.ev (a b c d e : Int) (z : Bool) (l : List Row) (h : l.length ≤ 1048576) : Ev (fun k => impl_belongs.f k a b c d e z (l.map Row.t)) (belongs a b c d e l) := by
  refine ev_step ?_
  simp only [impl_belongs.f, impl_belongs.b, List.length_map]
  unfold belongs
  refine Ev.bind (impl_LimitsOk.ev _ _ _ _ _) (ev_ite (fun c1 => Ev.bind (impl_TableOk.ev _ _ h) (ev_ite (fun c2 => ev_some ?_) fun c2 => ev_some ?_)) fun c1 => ev_some ?_)
  · rw [c1, c2]; rfl
  · simp [c2]
  · simp [c1]
theorem spec_l23Goes.ev (a b c d e : Int) (z : Bool) (l : List Row) (h : l.length ≤ 1048576) : Ev (fun k => spec_l23Goes.f k a b c d e z (l.map Row.t)) (belongs a b c d e l) := by
  refine ev_step ?_
  simp only [spec_l23Goes.f, spec_l23Goes.b, List.length_map]
  unfold belongs
  refine Ev.bind (spec_LimitsOk.ev _ _ _ _ _) (ev_ite (fun c1 => Ev.bind (spec_TableOk.ev _ _ h) (ev_ite (fun c2 => ev_some ?_) fun c2 => ev_some ?_)) fun c1 => ev_some ?_)
  · rw [c1, c2]; simp [eq_comm]
  · simp [c2]
  · simp [c1]
theorem spec_BitsSize.ev (n : Int) (h : i64r n) : Ev (fun k => spec_BitsSize.f k n) (bitsSize n) := by
  have h' : -9223372036854775808 ≤ n ∧ n ≤ 9223372036854775807 := h
  refine ev_step ?_
  simp only [spec_BitsSize.f, spec_BitsSize.b]
  unfold bitsSize
  refine ev_ite (fun c => ev_some (by rw [if_pos c])) fun c => ev_some ?_
  rw [if_neg c, w64 (n := n - 1) (by omega) (by omega), Int.tdiv_eq_ediv_of_nonneg (by omega), w64 (n := (n - 1) / 8) (by omega) (by omega), w64 (by omega) (by omega)]
theorem impl_BitsSize.ev (n : Int) (h : i64r n) : Ev (fun k => impl_BitsSize.f k n) (bitsSize n) := by
  have h' : -9223372036854775808 ≤ n ∧ n ≤ 9223372036854775807 := h
  refine ev_step ?_
  simp only [impl_BitsSize.f, impl_BitsSize.b]
  unfold bitsSize
  refine ev_ite (fun c => ev_some (by rw [if_pos c])) fun c => ev_some ?_
  rw [if_neg c, w64 (n := n - 1) (by omega) (by omega), Int.tdiv_eq_ediv_of_nonneg (by omega), w64 (n := (n - 1) / 8) (by omega) (by omega), w64 (by omega) (by omega)]
theorem impl_BitsHas.ev (z : Bool) (b : List Int) (h : niceB b) (i : Nat) (hi : i ≤ 4611686018427387904) : Ev (fun k => impl_BitsHas.f k z b (i : Int)) (bitAt b i) := by
  have hl := h.1
  have e8 : Int.tdiv (i : Int) 8 = ((i / 8 : Nat) : Int) := tdiv_nat i 8
  have m8 : Int.tmod (i : Int) 8 = ((i % 8 : Nat) : Int) := tmod_nat i 8
  refine ev_step ?_
  simp only [impl_BitsHas.f, impl_BitsHas.b]
  rw [w64 (n := 8 * (b.length : Int)) (by omega) (by omega), w64 (n := 8 * (b.length : Int) - 1) (by omega) (by omega), e8, m8, w64n (by omega)]
  refine Ev.bind (impl_within.ev _ _ _) (ev_ite (fun c => ?_) fun c => ?_)
  · have c' : (0 : Int) ≤ (i : Int) ∧ (i : Int) ≤ 8 * (b.length : Int) - 1 := by simpa using c
    refine ev_pos (by omega) (ev_pos (by omega) (ev_pos (by omega) (ev_some ?_)))
    have q := rd_nice h ((i / 8 : Nat) : Int)
    have e : shrI .u8 (rdI b ((i / 8 : Nat) : Int)) ((i % 8 : Nat) : Int) = rdI b ((i / 8 : Nat) : Int) / 2 ^ (i % 8) := by
      unfold shrI
      rw [toNat_nat, Nat.min_eq_left (by show i % 8 ≤ 8; omega)]
    have d := div_pow_bd q.1 q.2 (i % 8)
    rw [e, u8_and1 d.1 d.2]
    unfold bitAt
    rw [Bool.eq_iff_iff]; simp
  · have c' : ¬ ((0 : Int) ≤ (i : Int) ∧ (i : Int) ≤ 8 * (b.length : Int) - 1) := by simpa using c
    exact ev_some (bitAt_out (by omega)).symm
theorem spec_BitsHas.ev (z : Bool) (b : List Int) (h : niceB b) (i : Nat) (hi : i ≤ 4611686018427387904) : Ev (fun k => spec_BitsHas.f k z b (i : Int)) (bitAt b i) := by
  have hl := h.1
  have e8 : Int.tdiv (i : Int) 8 = ((i / 8 : Nat) : Int) := tdiv_nat i 8
  have m8 : Int.tmod (i : Int) 8 = ((i % 8 : Nat) : Int) := tmod_nat i 8
  have q := rd_nice h ((i / 8 : Nat) : Int)
  refine ev_step ?_
  simp only [spec_BitsHas.f, spec_BitsHas.b]
  rw [e8, m8, w64n (by omega), w64 (n := rdI b _) (by omega) (by omega)]
  refine ev_pos (by omega) (ev_ite (fun c => ?_) fun c => ev_some (bitAt_out (by omega)).symm)
  refine ev_pos (by omega) (ev_pos (by omega) (ev_pos (by omega) (ev_some ?_)))
  have e : shrI .i64 (rdI b ((i / 8 : Nat) : Int)) ((i % 8 : Nat) : Int) = rdI b ((i / 8 : Nat) : Int) / 2 ^ (i % 8) := by
    unfold shrI
    rw [toNat_nat, Nat.min_eq_left (by show i % 8 ≤ 64; omega)]
  have d := div_pow_bd q.1 q.2 (i % 8)
  rw [e, Int.tmod_eq_emod_of_nonneg d.1]
  unfold bitAt
  rw [Bool.eq_iff_iff]; simp
theorem impl_BitsList.ev0 (z : Bool) (b : List Int) (h : niceB b) : ∀ (d n : Nat) (acc : List Int), n + d = 8 * b.length → acc.length ≤ n → Ev (fun k => impl_BitsList.l0 k z b acc ((8 * b.length : Nat) : Int) (n : Int)) (false, acc ++ (bitsFrom b n d).map fun (n : Nat) => (n : Int))
  | 0, n, acc, hn, ha => by
    refine ev_step ?_
    simp only [impl_BitsList.l0, impl_BitsList.l0b]
    exact ev_neg (by omega) (ev_some (by simp [bitsFrom]))
  | d + 1, n, acc, hn, ha => by
    have hl := h.1
    refine ev_step ?_
    simp only [impl_BitsList.l0, impl_BitsList.l0b]
    refine ev_pos (by omega) (Ev.bind (impl_BitsHas.ev z b h n (by omega)) ?_)
    rw [w64s (by omega)]
    unfold bitsFrom
    refine ev_ite (fun c => ?_) (fun c => ?_)
    · rw [if_pos c]
      refine ev_pos (by omega) (ev_to (impl_BitsList.ev0 z b h d (n + 1) _ (by omega) (by simp; omega)) ?_)
      simp
    · rw [if_neg c]
      exact impl_BitsList.ev0 z b h d (n + 1) acc (by omega) (by omega)
theorem impl_BitsList.ev (z : Bool) (b : List Int) (h : niceB b) : Ev (fun k => impl_BitsList.f k z b) (false, bitsList b) := by
  have hl := h.1
  refine ev_step ?_
  simp only [impl_BitsList.f, impl_BitsList.b]
  rw [w64 (by omega) (by omega)]
  exact ev_to (impl_BitsList.ev0 z b h (8 * b.length) 0 [] (by omega) (by simp)) (by simp [bitsList])
theorem spec_BitsList.ev0 (z : Bool) (b : List Int) (h : niceB b) : ∀ (d n : Nat) (acc : List Int), n + d = 8 * b.length → acc.length ≤ n → Ev (fun k => spec_BitsList.l0 k z b acc (n : Int)) (false, acc ++ (bitsFrom b n d).map fun (n : Nat) => (n : Int))
  | 0, n, acc, hn, ha => by
    have hl := h.1
    refine ev_step ?_
    simp only [spec_BitsList.l0, spec_BitsList.l0b]
    rw [w64 (n := 8 * (b.length : Int)) (by omega) (by omega)]
    exact ev_neg (by omega) (ev_some (by simp [bitsFrom]))
  | d + 1, n, acc, hn, ha => by
    have hl := h.1
    refine ev_step ?_
    simp only [spec_BitsList.l0, spec_BitsList.l0b]
    rw [w64 (n := 8 * (b.length : Int)) (by omega) (by omega)]
    refine ev_pos (by omega) (Ev.bind (spec_BitsHas.ev z b h n (by omega)) ?_)
    rw [w64s (by omega)]
    unfold bitsFrom
    refine ev_ite (fun c => ?_) (fun c => ?_)
    · rw [if_pos c]
      refine ev_pos (by omega) (ev_to (spec_BitsList.ev0 z b h d (n + 1) _ (by omega) (by simp; omega)) ?_)
      simp
    · rw [if_neg c]
      exact spec_BitsList.ev0 z b h d (n + 1) acc (by omega) (by omega)
theorem spec_BitsList.ev (z : Bool) (b : List Int) (h : niceB b) : Ev (fun k => spec_BitsList.f k z b) (false, bitsList b) := by
  refine ev_step ?_
  simp only [spec_BitsList.f, spec_BitsList.b]
  exact ev_to (spec_BitsList.ev0 z b h (8 * b.length) 0 [] (by omega) (by simp)) (by simp [bitsList])
theorem impl_BitsOk.ev0 (z : Bool) (n : Int) (l : List Int) (hl : l.length ≤ 9223372036854775806) : ∀ (d i : Nat), i + d = l.length → Ev (fun k => impl_BitsOk.l0 k n z l (l.length : Int) (i : Int)) ((l.drop i).all fun x => decide (x < n))
  | 0, i, hi => by
    refine ev_step ?_
    simp only [impl_BitsOk.l0, impl_BitsOk.l0b]
    refine ev_neg (by omega) (ev_some ?_)
    rw [List.drop_of_length_le (by omega)]
    rfl
  | d + 1, i, hi => by
    have hlt : i < l.length := by omega
    refine ev_step ?_
    simp only [impl_BitsOk.l0, impl_BitsOk.l0b]
    refine ev_pos (by omega) (ev_pos (by omega) (ev_pos (by omega) ?_))
    rw [w64s (by omega), rd_nat hlt, List.drop_eq_getElem_cons hlt, List.all_cons]
    refine ev_ite (fun c => ev_some ?_) (fun c => ev_to (impl_BitsOk.ev0 z n l hl d (i + 1) (by omega)) ?_)
    · simp; omega
    · simp; omega
theorem impl_BitsOk.ev (z : Bool) (b : List Int) (n : Int) (h : niceB b) (hn : i64r n) : Ev (fun k => impl_BitsOk.f k z b n) (bitsOk b n) := by
  have hl := h.1
  have hL := bitsList_length b
  refine ev_step ?_
  simp only [impl_BitsOk.f, impl_BitsOk.b]
  unfold bitsOk
  refine Ev.bind (impl_within.ev _ _ _) (ev_ite (fun c => ev_some ?_) fun c => Ev.bind (impl_BitsSize.ev n hn) (ev_ite (fun e => ev_some ?_) fun e => Ev.bind (impl_BitsList.ev z b h) (ev_to (impl_BitsOk.ev0 false n (bitsList b) (by omega) (bitsList b).length 0 (by omega)) ?_)))
  · have : ¬ (1 ≤ n ∧ n ≤ 10) := by simpa using c
    simp [this]
  · have : ¬ (b.length : Int) = bitsSize n := by simpa using e
    simp [this]
  · have c' : 1 ≤ n ∧ n ≤ 10 := by simpa using c
    have e' : (b.length : Int) = bitsSize n := by simpa using e
    simp [c', e']
theorem spec_BitsOk.ev (z : Bool) (b : List Int) (n : Int) (h : niceB b) (hn : i64r n) : Ev (fun k => spec_BitsOk.f k z b n) (bitsOk b n) := by
  have hl := h.1
  have hL := bitsList_length b
  refine ev_step ?_
  simp only [spec_BitsOk.f, spec_BitsOk.b]
  unfold bitsOk
  rw [all_lt_last]
  refine Ev.bind (spec_l02Signers.ev _) (ev_ite (fun c => ev_some ?_) fun c => Ev.bind (spec_BitsSize.ev n hn) (ev_ite (fun e => ev_some ?_) fun e => Ev.bind (spec_BitsList.ev z b h) ?_))
  · have : ¬ (1 ≤ n ∧ n ≤ 10) := by simpa using c
    simp [this]
  · have : ¬ (b.length : Int) = bitsSize n := by simpa using e
    simp [this]
  have c' : 1 ≤ n ∧ n ≤ 10 := by simpa using c
  have e' : (b.length : Int) = bitsSize n := by simpa using e
  refine ev_ite (fun z => ev_some ?_) (fun z => ?_)
  · have z' : (((bitsList b).length : Nat) : Int) = 0 := z
    have : bitsList b = [] := List.length_eq_zero_iff.1 (by omega)
    simp [c', e', this]
  · have z' : ¬ (((bitsList b).length : Nat) : Int) = 0 := z
    have hz : 0 < (bitsList b).length := by omega
    show Ev (fun k => cond (decide ((0 : Int) ≤ wrap64 (((bitsList b).length : Int) - 1))) (cond (decide (wrap64 (((bitsList b).length : Int) - 1) < ((bitsList b).length : Int))) (some (decide (rdI (bitsList b) (wrap64 (((bitsList b).length : Int) - 1)) < n))) none) none) _
    rw [w64p (by omega) hz]
    refine ev_pos (by omega) (ev_pos (by omega) (ev_some ?_))
    rw [rd_nat (by omega)]
    have : bitsList b ≠ [] := by intro x; rw [x] at hz; simp at hz
    simp [c', e', this, List.getLast_eq_getElem]
theorem spec_BitsCount.ev (z : Bool) (b : List Int) (h : niceB b) : Ev (fun k => spec_BitsCount.f k z b) ((bitCount b : Nat) : Int) := by
  refine ev_step ?_
  simp only [spec_BitsCount.f, spec_BitsCount.b]
  exact Ev.bind (spec_BitsList.ev z b h) (ev_some (by simp [bitsList, bitCount]))
theorem bits_OnesCount8.all : ∀ n : Fin 256, bits_OnesCount8.f 1 ((n.val : Nat) : Int) = some ((pop8 n.val : Nat) : Int) := by decide +kernel
theorem bits_OnesCount8.ev {x : Int} (h0 : 0 ≤ x) (h1 : x < 256) : Ev (fun k => bits_OnesCount8.f k x) ((pop8 x.toNat : Nat) : Int) := by
  have := bits_OnesCount8.all ⟨x.toNat, by omega⟩
  have e : ((x.toNat : Nat) : Int) = x := by omega
  simp only [e] at this
  exact ⟨1, fun k hk => by
    obtain ⟨j, rfl⟩ : ∃ j, k = j + 1 := ⟨k - 1, by omega⟩
    exact this⟩
theorem pop8_le (n : Nat) : pop8 n ≤ 8 := by
  unfold pop8
  exact Nat.le_trans (List.length_filter_le _ _) (by simp)
theorem impl_BitsCount.ev0 (z : Bool) (b : List Int) (hb : niceB b) : ∀ (d i : Nat), i + d = b.length → Ev (fun k => impl_BitsCount.l0 k (((bitsFrom b 0 (8 * i)).length : Nat) : Int) z b (b.length : Int) (i : Int)) ((bitCount b : Nat) : Int) := by
  intro d
  have hlen := hb.1
  induction d with
  | zero =>
    intro i hi
    refine ev_step ?_
    simp only [impl_BitsCount.l0, impl_BitsCount.l0b]
    refine ev_neg (by omega) (ev_some ?_)
    unfold bitCount
    rw [show i = b.length by omega]
  | succ d ih =>
    intro i hi
    have hlt : i < b.length := by omega
    have e := ih (i + 1) (by omega)
    have hx := hb.2 _ (List.getElem_mem hlt)
    have q := bitsFrom_length b (8 * i) 0
    have q8 := pop8_le (b[i]).toNat
    have es : (bitsFrom b 0 (8 * (i + 1))).length = (bitsFrom b 0 (8 * i)).length + pop8 (b[i]).toNat := by
      rw [show 8 * (i + 1) = 8 * i + 8 by omega, bitsFrom_split, List.length_append, Nat.zero_add, pop_byte hb hlt]
    rw [es] at e
    refine ev_step ?_
    simp only [impl_BitsCount.l0, impl_BitsCount.l0b]
    refine ev_pos (by omega) (ev_pos (by omega) (ev_pos (by omega) ?_))
    rw [rd_nat hlt]
    refine Ev.bind (bits_OnesCount8.ev hx.1 hx.2) ?_
    rw [w64s (by omega), w64 (by omega) (by omega)]
    exact e
theorem impl_BitsCount.ev (z : Bool) (b : List Int) (hb : niceB b) : Ev (fun k => impl_BitsCount.f k z b) ((bitCount b : Nat) : Int) := by
  refine ev_step ?_
  simp only [impl_BitsCount.f, impl_BitsCount.b]
  exact impl_BitsCount.ev0 z b hb b.length 0 (by omega)


end Go.Proofs.YtlfliciohaebfaaG
namespace Go.Proofs.YtlfliciohaebfaaG
open Go Go.Proofs.YtlfliciohaebfaaRv Go.RowKit
set_option linter.unusedVariables false
set_option linter.unusedSimpArgs false

def areH (l : List By) : Bool := allFrom (fun n => decide ((l.getD n default).l.length = 32)) 0 l.length
theorem impl_areHashes.ev (z : Bool) (l : List By) (h : l.length ≤ 1048576) : Ev (fun k => impl_areHashes.f k z (l.map By.t)) (areH l) := by
  refine ev_step ?_
  simp only [impl_areHashes.f, impl_areHashes.b, List.length_map]
  unfold areH
  refine ev_allp (fun k i => impl_areHashes.l0 k z (l.map By.t) (l.length : Int) i) l.length _ (fun n hn hp r hr => ?_) (fun n hn hp => ?_) ?_ l.length 0 (by omega)
  · rw [getD_in hn] at hp
    refine ev_step ?_
    simp only [impl_areHashes.l0, impl_areHashes.l0b, List.length_map, Int.toNat_natCast, by_at hn, By.c0, By.c0z, succ_nat n (by omega)]
    have hp' : l[n].l.length = 32 := by simpa using hp
    exact ev_pos (by omega) (ev_pos (by omega) (ev_pos (by omega) (ev_neg (by simp [hp']) hr)))
  · rw [getD_in hn] at hp
    refine ev_step ?_
    simp only [impl_areHashes.l0, impl_areHashes.l0b, List.length_map, Int.toNat_natCast, by_at hn, By.c0, By.c0z, succ_nat n (by omega)]
    have hp' : ¬ l[n].l.length = 32 := by simpa using hp
    exact ev_pos (by omega) (ev_pos (by omega) (ev_pos (by omega) (ev_pos (by omega) (ev_some rfl))))
  · refine ev_step ?_
    simp only [impl_areHashes.l0, impl_areHashes.l0b]
    exact ev_neg (by omega) (ev_some rfl)
theorem impl_areHashes.ev2 (y z w : Bool) (a b : List Int) : Ev (fun k => impl_areHashes.f k y [.nums 5 .u8 z a, .nums 5 .u8 w b]) (decide (a.length = 32) && decide (b.length = 32)) :=
  ev_to (impl_areHashes.ev y [⟨z, a⟩, ⟨w, b⟩] (by simp)) (by simp [areH, allFrom])
theorem spec_l08Hashes.ev (z : Bool) (l : List By) (h : l.length ≤ 1048576) : Ev (fun k => spec_l08Hashes.f k z (l.map By.t)) (areH l) := by
  refine ev_step ?_
  simp only [spec_l08Hashes.f, spec_l08Hashes.b, List.length_map]
  unfold areH
  refine ev_allp (fun k i => spec_l08Hashes.l0 k z (l.map By.t) (l.length : Int) i) l.length _ (fun n hn hp r hr => ?_) (fun n hn hp => ?_) ?_ l.length 0 (by omega)
  · rw [getD_in hn] at hp
    refine ev_step ?_
    simp only [spec_l08Hashes.l0, spec_l08Hashes.l0b, List.length_map, Int.toNat_natCast, by_at hn, By.c0, By.c0z, succ_nat n (by omega)]
    have hp' : l[n].l.length = 32 := by simpa using hp
    exact ev_pos (by omega) (ev_pos (by omega) (ev_pos (by omega) (Ev.bind (spec_l07Hash.ev _ _) (ev_neg (by simp [hp']) hr))))
  · rw [getD_in hn] at hp
    refine ev_step ?_
    simp only [spec_l08Hashes.l0, spec_l08Hashes.l0b, List.length_map, Int.toNat_natCast, by_at hn, By.c0, By.c0z, succ_nat n (by omega)]
    exact ev_pos (by omega) (ev_pos (by omega) (ev_pos (by omega) (Ev.bind (spec_l07Hash.ev _ _) (ev_pos (by simpa using hp) (ev_some rfl)))))
  · refine ev_step ?_
    simp only [spec_l08Hashes.l0, spec_l08Hashes.l0b]
    exact ev_neg (by omega) (ev_some rfl)
def qcOk (a b c d e : Int) (q : QcV) : Bool :=
  limitsOk a b c d e && (isNum q.v && (isNum q.h && (decide (q.blk.length = 32) && (bitsOk q.bits a && (decide (q.tags.length = bitCount q.bits) && areH q.tags)))))
def QcV.nice (q : QcV) : Prop := q.few ∧ q.byt
theorem QcV.nbits {q : QcV} (h : q.nice) : niceB q.bits := ⟨h.1.2.1, h.2.2.1⟩
theorem spec_QcOk.ev (a b c d e : Int) (q : QcV) (h : q.nice) (ha : i64r a) : Ev (fun k => spec_QcOk.f k a b c d e q.v q.h q.bz q.blk q.mz q.bits q.tz (q.tags.map By.t)) (qcOk a b c d e q) := by
  refine ev_step ?_
  simp only [spec_QcOk.f, spec_QcOk.b, List.length_map]
  unfold qcOk
  refine Ev.bind (spec_LimitsOk.ev _ _ _ _ _) (ev_ite (fun c0 => ?_) (fun c0 => ev_some (by simp [c0])))
  rw [c0, Bool.true_and]
  refine Ev.bind (spec_l01Num.ev _) (ev_ite (fun c1 => ?_) (fun c1 => ev_some (by simp [c1])))
  rw [c1, Bool.true_and]
  refine Ev.bind (spec_l01Num.ev _) (ev_ite (fun c2 => ?_) (fun c2 => ev_some (by simp [c2])))
  rw [c2, Bool.true_and]
  refine Ev.bind (spec_l07Hash.ev _ _) (ev_ite (fun c3 => ?_) (fun c3 => ev_some (by simp [c3])))
  rw [decide_eq_true c3, Bool.true_and]
  refine Ev.bind (spec_BitsOk.ev _ _ _ (QcV.nbits h) ha) (ev_ite (fun c4 => ?_) (fun c4 => ev_some (by simp [c4])))
  rw [c4, Bool.true_and]
  refine Ev.bind (spec_BitsCount.ev _ _ (QcV.nbits h)) (ev_ite (fun c5 => ?_) (fun c5 => ev_some ?_))
  · have : q.tags.length = bitCount q.bits := by omega
    rw [decide_eq_true this, Bool.true_and]
    exact Ev.bind (spec_l08Hashes.ev _ _ h.1.2.2.1) (ev_some rfl)
  · have : ¬ q.tags.length = bitCount q.bits := by omega
    simp [this]
theorem impl_QcOk.ev (a b c d e : Int) (q : QcV) (h : q.nice) (ha : i64r a) : Ev (fun k => impl_QcOk.f k a b c d e q.v q.h q.bz q.blk q.mz q.bits q.tz (q.tags.map By.t)) (qcOk a b c d e q) := by
  refine ev_step ?_
  simp only [impl_QcOk.f, impl_QcOk.b, List.length_map]
  unfold qcOk
  refine Ev.bind (impl_LimitsOk.ev _ _ _ _ _) (ev_ite (fun c0 => ?_) (fun c0 => ev_some (by simp [c0])))
  rw [c0, Bool.true_and]
  refine Ev.bind (impl_isNum.ev _) (ev_ite (fun c1 => ?_) (fun c1 => ev_some (by simp [c1])))
  rw [c1, Bool.true_and]
  refine Ev.bind (impl_isNum.ev _) (ev_ite (fun c2 => ?_) (fun c2 => ev_some (by simp [c2])))
  rw [c2, Bool.true_and]
  refine Ev.bind (impl_areHashes.ev1 _ _ _) (ev_ite (fun c3 => ?_) (fun c3 => ev_some (by simp [c3])))
  rw [decide_eq_true c3, Bool.true_and]
  refine Ev.bind (impl_BitsOk.ev _ _ _ (QcV.nbits h) ha) (ev_ite (fun c4 => ?_) (fun c4 => ev_some (by simp [c4])))
  rw [c4, Bool.true_and]
  refine Ev.bind (impl_BitsCount.ev _ _ (QcV.nbits h)) (ev_ite (fun c5 => ?_) (fun c5 => ev_some ?_))
  · have : q.tags.length = bitCount q.bits := by omega
    rw [decide_eq_true this, Bool.true_and]
    exact Ev.bind (impl_areHashes.ev _ _ h.1.2.2.1) (ev_some rfl)
  · have : ¬ q.tags.length = bitCount q.bits := by omega
    simp [this]
theorem Rows.few {l : List Row} (h : Rows l) : l.length ≤ 1048576 := h.1
theorem QcV.few_cp {q : QcV} (h : q.few) : q.cp.few := ⟨h.1, h.2.1, fewB_cp h.2.2⟩
theorem rows_cp {l : List Row} (few : Few l) (hb : ∀ r ∈ l, bytesOk r.f1) : Rows (l.map Row.cp) := by
  have few2 := few_cp few
  exact ⟨few2.1, fun x hx => ⟨few2.2 x hx, by
    obtain ⟨q, hq, rfl⟩ := List.mem_map.1 hx
    exact hb q hq⟩⟩
end Go.Proofs.YtlfliciohaebfaaG
namespace Go.Proofs.YtlfliciohaebfaaG
open Go Go.Proofs.YtlfliciohaebfaaRv Go.RowKit
set_option linter.unusedVariables false
set_option linter.unusedSimpArgs false

theorem impl_BitsNew.ev (n : Nat) (h1 : 1 ≤ n) (h2 : n ≤ 10) : Ev (fun k => impl_BitsNew.f k (n : Int)) (false, List.replicate (bitsSize (n : Int)).toNat 0) := by
  have z := bitsSize_bd h1 h2
  refine ev_step ?_
  simp only [impl_BitsNew.f, impl_BitsNew.b]
  exact Ev.bind (impl_within.ev _ _ _) (ev_neg (by simp; omega) (Ev.bind (impl_BitsSize.ev _ (by unfold i64r; omega)) (ev_pos trivial (ev_pos (by omega) (ev_pos (by omega) (ev_some rfl))))))
theorem spec_BitsNew.ev (n : Nat) (h1 : 1 ≤ n) (h2 : n ≤ 10) : Ev (fun k => spec_BitsNew.f k (n : Int)) (false, List.replicate (bitsSize (n : Int)).toNat 0) := by
  have z := bitsSize_bd h1 h2
  refine ev_step ?_
  simp only [spec_BitsNew.f, spec_BitsNew.b]
  exact Ev.bind (spec_l02Signers.ev _) (ev_neg (by simp; omega) (Ev.bind (spec_BitsSize.ev _ (by unfold i64r; omega)) (ev_pos trivial (ev_pos (by omega) (ev_pos (by omega) (ev_some rfl))))))
end Go.Proofs.YtlfliciohaebfaaG
namespace Go.Proofs.YtlfliciohaebfaaG
open Go Go.Proofs.YtlfliciohaebfaaRv Go.RowKit
set_option linter.unusedVariables false
set_option linter.unusedSimpArgs false

def fits (x : Head) : Bool := decide (x.q.v < x.v) && (decide (x.q.h = wrap64 (x.h - 1)) && sameB x.q.blk x.par)
def headOk (a b c d e : Int) (x : Head) : Bool :=
  qcOk a b c d e x.q && (isNum x.v && (decide (1 ≤ x.h ∧ x.h ≤ 1152921504606846975) && (decide (0 ≤ x.p ∧ x.p ≤ wrap64 (a - 1)) && ((decide (x.par.length = 32) && decide (x.root.length = 32)) && fits x))))
def Head.nice (x : Head) : Prop := x.few ∧ x.byt
theorem impl_HeadOk.ev (a b c d e : Int) (ha : i64r a) (x : Head) (h : x.nice) : Ev (fun k => impl_HeadOk.f k a b c d e x.v x.h x.p x.az x.par x.rz x.root x.q.v x.q.h x.q.bz x.q.blk x.q.mz x.q.bits x.q.tz (x.q.tags.map By.t)) (headOk a b c d e x) := by
  have hq : x.q.nice := ⟨h.1.2.2, h.2.2.2⟩
  have M : Ev (fun k => impl_Head_matches.f k x.v x.h x.p x.az x.par x.rz x.root x.q.v x.q.h x.q.bz x.q.blk x.q.mz x.q.bits x.q.tz (x.q.tags.map By.t)) (fits x) := by
    refine ev_step ?_
    simp only [impl_Head_matches.f, impl_Head_matches.b]
    unfold fits
    refine ev_ite (fun c1 => ev_ite (fun c2 => Ev.bind (impl_SameBytes.ev _ _ _ _) (ev_some (by simp [c1, c2]))) (fun c2 => ev_some (by simp [c2]))) (fun c1 => ev_some (by simp [c1]))
  refine ev_step ?_
  simp only [impl_HeadOk.f, impl_HeadOk.b]
  unfold headOk
  refine Ev.bind (impl_QcOk.ev a b c d e x.q hq ha) (ev_ite (fun c0 => ?_) (fun c0 => ev_some (by simp [c0])))
  rw [c0, Bool.true_and]
  refine Ev.bind (impl_isNum.ev _) (ev_ite (fun c1 => ?_) (fun c1 => ev_some (by simp [c1])))
  rw [c1, Bool.true_and]
  refine Ev.bind (impl_within.ev _ _ _) (ev_ite (fun c2 => ?_) (fun c2 => ev_some (by rw [decide_eq_false c2]; rfl)))
  rw [decide_eq_true c2, Bool.true_and]
  refine Ev.bind (impl_within.ev _ _ _) (ev_ite (fun c3 => ?_) (fun c3 => ev_some (by rw [decide_eq_false c3]; rfl)))
  rw [decide_eq_true c3, Bool.true_and]
  refine Ev.bind (impl_areHashes.ev2 _ _ _ _ _) (ev_ite (fun c4 => ?_) (fun c4 => ev_some (by simp only [Bool.not_eq_true] at c4; rw [c4]; rfl)))
  rw [c4, Bool.true_and]
  exact Ev.bind M (ev_some rfl)
theorem spec_HeadOk.ev (a b c d e : Int) (ha : i64r a) (x : Head) (h : x.nice) : Ev (fun k => spec_HeadOk.f k a b c d e x.v x.h x.p x.az x.par x.rz x.root x.q.v x.q.h x.q.bz x.q.blk x.q.mz x.q.bits x.q.tz (x.q.tags.map By.t)) (headOk a b c d e x) := by
  have hq : x.q.nice := ⟨h.1.2.2, h.2.2.2⟩
  have M : Ev (fun k => spec_l13Fits.f k x.v x.h x.p x.az x.par x.rz x.root x.q.v x.q.h x.q.bz x.q.blk x.q.mz x.q.bits x.q.tz (x.q.tags.map By.t)) (fits x) := by
    refine ev_step ?_
    simp only [spec_l13Fits.f, spec_l13Fits.b]
    unfold fits
    refine ev_ite (fun c1 => ev_ite (fun c2 => Ev.bind (spec_SameBytes.ev _ _ _ _) (ev_some (by simp [c1, c2]))) (fun c2 => ev_some (by simp [c2]))) (fun c1 => ev_some (by simp [c1]))
  have lq : limitsOk a b c d e = false → qcOk a b c d e x.q = false := fun h => by simp [qcOk, h]
  refine ev_step ?_
  simp only [spec_HeadOk.f, spec_HeadOk.b]
  unfold headOk
  refine Ev.bind (spec_LimitsOk.ev _ _ _ _ _) (ev_ite (fun c0 => ?_) (fun c0 => ev_some (by rw [lq (by simpa using c0)]; rfl)))
  refine Ev.bind (spec_l01Num.ev _) (ev_ite (fun c1 => ?_) (fun c1 => ev_some (by simp [c1])))
  rw [c1, Bool.true_and]
  refine Ev.bind (spec_l01In.ev _ _ _) (ev_ite (fun c2 => ?_) (fun c2 => ev_some (by rw [decide_eq_false c2]; simp)))
  rw [decide_eq_true c2, Bool.true_and]
  refine Ev.bind (spec_l01In.ev _ _ _) (ev_ite (fun c3 => ?_) (fun c3 => ev_some (by rw [decide_eq_false c3]; simp)))
  rw [decide_eq_true c3, Bool.true_and]
  refine Ev.bind (spec_l07Hash.ev _ _) (ev_ite (fun c4 => ?_) (fun c4 => ev_some (by rw [decide_eq_false c4]; simp)))
  rw [decide_eq_true c4, Bool.true_and]
  refine Ev.bind (spec_l07Hash.ev _ _) (ev_ite (fun c5 => ?_) (fun c5 => ev_some (by rw [decide_eq_false c5]; simp)))
  rw [decide_eq_true c5, Bool.true_and]
  refine Ev.bind (spec_QcOk.ev a b c d e x.q hq ha) (ev_ite (fun c6 => ?_) (fun c6 => ev_some (by simp [c6])))
  rw [c6, Bool.true_and]
  exact Ev.bind M (ev_some rfl)


end Go.Proofs.YtlfliciohaebfaaG
namespace Go.Proofs.YtlfliciohaebfaaG
open Go Go.Proofs.YtlfliciohaebfaaRv Go.RowKit
set_option linter.unusedVariables false
set_option linter.unusedSimpArgs false

structure QcK (q : QcV) : Prop where
  v : isNum q.v = true
  h : isNum q.h = true
  blk : q.blk.length = 32
  bits : q.bits.length ≤ 2
  cnt : q.tags.length ≤ 16
  tags : ∀ b ∈ q.tags, b.l.length = 32
structure HeadK (x : Head) : Prop where
  v : isNum x.v = true
  h : isNum x.h = true
  p : isNum x.p = true
  par : x.par.length = 32
  root : x.root.length = 32
  q : QcK x.q
end Go.Proofs.YtlfliciohaebfaaG
namespace Go.Proofs.YtlfliciohaebfaaG
open Go Go.Proofs.YtlfliciohaebfaaRv Go.RowKit
set_option linter.unusedVariables false
set_option linter.unusedSimpArgs false


def cnt {α : Type} (w : α → Nat) (l : List α) : Nat := (l.map w).sum
theorem cnt_take {α : Type} (w : α → Nat) {l : List α} {n : Nat} (h : n < l.length) : cnt w (l.take (n + 1)) = cnt w (l.take n) + w l[n] := by
  rw [List.take_succ_eq_append_getElem h]
  unfold cnt
  rw [List.map_append, List.sum_append]
  simp only [List.map_cons, List.map_nil, List.sum_cons, List.sum_nil, Nat.add_zero]
theorem cnt_le {α : Type} (w : α → Nat) (m : Nat) : ∀ (l : List α), (∀ x ∈ l, w x ≤ m) → cnt w l ≤ l.length * m
  | [], h => by simp [cnt]
  | x :: l, h => by
    have := cnt_le w m l fun y hy => h y (by simp [hy])
    have := h x (by simp)
    simp only [cnt, List.map_cons, List.sum_cons, List.length_cons, Nat.add_mul, Nat.one_mul] at *
    omega
def byW (b : By) : Nat := b.l.length
def tagAt (l : List By) (a : Int) (i : Nat) : By := ⟨(l.getD i default).z, mk8 (l.getD i default).l.length (a + (cnt byW (l.take i) : Nat))⟩
def mkTags (l : List By) (a : Int) : List By := (List.range l.length).map (tagAt l a)
theorem mkTags_len (l : List By) (a : Int) : (mkTags l a).length = l.length := by simp [mkTags]
theorem mkTags_get (l : List By) (a : Int) {i : Nat} (h : i < (mkTags l a).length) : (mkTags l a)[i] = tagAt l a i := by simp [mkTags]
theorem laws_markByteSS.ev (z : Bool) (l : List By) (h : FewB l) (a : Int) (h0 : 0 ≤ a) (h1 : a ≤ 1099511627776) : Ev (fun k => laws_markByteSS.f k z (l.map By.t) a) (a + (cnt byW l : Nat), z, (mkTags l a).map By.t) := by
  have hl : l.length ≤ 1048576 := h.1
  have key : ∀ (d n : Nat) (ys : List T), n + d = l.length → ys.length = l.length → ys.drop n = (l.map By.t).drop n → ys.take n = ((mkTags l a).map By.t).take n → Ev (fun k => laws_markByteSS.l0 k z ys (a + (cnt byW (l.take n) : Nat)) (n : Int)) (a + (cnt byW l : Nat), z, (mkTags l a).map By.t) := by
    intro d
    induction d with
    | zero =>
      intro n ys hn hy ht hk
      refine ev_step ?_
      simp only [laws_markByteSS.l0, laws_markByteSS.l0b]
      refine ev_neg (by omega) (ev_some ?_)
      rw [List.take_of_length_le (by omega), List.take_of_length_le (by rw [List.length_map, mkTags_len]; omega)] at hk
      rw [hk, List.take_of_length_le (by omega)]
    | succ d ih =>
      intro n ys hn hy ht hk
      have hlt : n < l.length := by omega
      have hg := getD_of_drop (d := T.bad) ht hlt
      have hb := h.2 _ (List.getElem_mem hlt)
      have hb' : (l[n]).l.length ≤ 1048576 := hb
      have hc := cnt_le byW 1048576 (l.take n) fun x hx => h.2 x (List.mem_of_mem_take hx)
      have hc2 : (l.take n).length * 1048576 ≤ 1048576 * 1048576 := Nat.mul_le_mul_right _ (by rw [List.length_take]; omega)
      have M := laws_markByteS.ev (l[n]).z (l[n]).l hb (a + (cnt byW (l.take n) : Nat)) ⟨by omega, by omega⟩
      have ht' : ys.drop (n + 1) = (l.map By.t).drop (n + 1) := by
        have := congrArg (List.drop 1) ht
        simpa [List.drop_drop] using this
      have e1 : (tagAt l a n).t = .nums 5 .u8 (l[n]).z (mk8 (l[n]).l.length (a + (cnt byW (l.take n) : Nat))) := by
        unfold tagAt By.t; rw [getD_in hlt]
      have i2 := ih (n + 1) (ys.set n (tagAt l a n).t) (by omega) (by simp [hy]) (by rw [drop_set_lt (by omega), ht']) (by
        rw [List.take_succ_eq_append_getElem (by simp; omega), List.take_succ_eq_append_getElem (by rw [List.length_map, mkTags_len]; omega), List.take_set_of_le (Nat.le_refl n), hk, List.getElem_set_self, List.getElem_map, mkTags_get])
      rw [cnt_take byW hlt, e1, show (a + ((cnt byW (l.take n) + byW l[n] : Nat) : Int)) = a + (cnt byW (l.take n) : Nat) + ((l[n]).l.length : Int) by unfold byW; omega] at i2
      refine ev_step ?_
      simp only [laws_markByteSS.l0, laws_markByteSS.l0b, Int.toNat_natCast, succ_nat n (by omega), hg, By.c0, By.c0z]
      exact ev_pos (by omega) (ev_pos (by omega) (ev_pos (by omega) (Ev.bind M i2)))
  refine ev_step ?_
  simp only [laws_markByteSS.f, laws_markByteSS.b]
  have := key l.length 0 (l.map By.t) (by omega) (by simp) rfl (by simp)
  simpa [cnt] using this
theorem laws_heldByteSS.ev (z : Bool) (l : List By) (h : FewB l) (a : Int) (h0 : 0 ≤ a) (h1 : a ≤ 1099511627776) : Ev (fun k => laws_heldByteSS.f k z ((mkTags l a).map By.t) a) (a + (cnt byW l : Nat)) := by
  have hl : l.length ≤ 1048576 := h.1
  have hm := mkTags_len l a
  have key : ∀ (d n : Nat), n + d = l.length → Ev (fun k => laws_heldByteSS.l0 k z ((mkTags l a).map By.t) (a + (cnt byW (l.take n) : Nat)) (n : Int)) (a + (cnt byW l : Nat)) := by
    intro d
    induction d with
    | zero =>
      intro n hn
      refine ev_step ?_
      simp only [laws_heldByteSS.l0, laws_heldByteSS.l0b, List.length_map]
      refine ev_neg (by omega) (ev_some ?_)
      rw [List.take_of_length_le (by omega)]
    | succ d ih =>
      intro n hn
      have hlt : n < l.length := by omega
      have hb' : (l[n]).l.length ≤ 1048576 := h.2 _ (List.getElem_mem hlt)
      have hc := cnt_le byW 1048576 (l.take n) fun x hx => h.2 x (List.mem_of_mem_take hx)
      have hc2 : (l.take n).length * 1048576 ≤ 1048576 * 1048576 := Nat.mul_le_mul_right _ (by rw [List.length_take]; omega)
      have i2 := ih (n + 1) (by omega)
      rw [cnt_take byW hlt, show (a + ((cnt byW (l.take n) + byW l[n] : Nat) : Int)) = a + (cnt byW (l.take n) : Nat) + ((l[n]).l.length : Int) by unfold byW; omega] at i2
      have H := laws_heldByteS.ev (tagAt l a n).z (l[n]).l.length hb' (a + (cnt byW (l.take n) : Nat)) ⟨by omega, by omega⟩
      have e1 : (tagAt l a n).l = mk8 (l[n]).l.length (a + (cnt byW (l.take n) : Nat)) := by unfold tagAt; rw [getD_in hlt]
      have hlt' : n < (mkTags l a).length := by omega
      refine ev_step ?_
      simp only [laws_heldByteSS.l0, laws_heldByteSS.l0b, List.length_map, Int.toNat_natCast, succ_nat n (by omega), by_at hlt', mkTags_get, By.c0, By.c0z, e1]
      exact ev_pos (by omega) (ev_pos (by omega) (ev_pos (by omega) (Ev.bind H (ev_neg (by omega) i2))))
  refine ev_step ?_
  simp only [laws_heldByteSS.f, laws_heldByteSS.b]
  have := key l.length 0 (by omega)
  simpa [cnt] using this
def QcV.mk_ (q : QcV) (a : Int) : QcV := ⟨q.v, q.h, q.bz, mk8 q.blk.length a, q.mz, mk8 q.bits.length (a + q.blk.length), q.tz, mkTags q.tags (a + q.blk.length + q.bits.length)⟩
def QcV.w (q : QcV) : Nat := q.blk.length + q.bits.length + cnt byW q.tags
theorem laws_markQc.ev (q : QcV) (h : q.few) (a : Int) (h0 : 0 ≤ a) (h1 : a ≤ 100000000) : Ev (fun k => laws_markQc.f k q.v q.h q.bz q.blk q.mz q.bits q.tz (q.tags.map By.t) a) (a + (q.w : Nat), q.v, q.h, q.bz, (q.mk_ a).blk, q.mz, (q.mk_ a).bits, q.tz, (q.mk_ a).tags.map By.t) := by
  have l1 : q.blk.length ≤ 1048576 := h.1
  have l2 : q.bits.length ≤ 1048576 := h.2.1
  refine ev_step ?_
  simp only [laws_markQc.f, laws_markQc.b]
  refine Ev.bind (laws_markByteS.ev _ _ h.1 a ⟨by omega, by omega⟩) (Ev.bind (laws_markByteS.ev _ _ h.2.1 _ ⟨by simp only []; omega, by simp only []; omega⟩) (Ev.bind (laws_markByteSS.ev _ _ h.2.2 _ (by simp only []; omega) (by simp only []; omega)) (ev_some ?_)))
  simp only [QcV.mk_, QcV.w]
  congr 1
  omega
theorem laws_heldQc.ev (q : QcV) (h : q.few) (a : Int) (h0 : 0 ≤ a) (h1 : a ≤ 100000000) : Ev (fun k => laws_heldQc.f k q.v q.h q.bz (q.mk_ a).blk q.mz (q.mk_ a).bits q.tz ((q.mk_ a).tags.map By.t) a) (a + (q.w : Nat)) := by
  have l1 : q.blk.length ≤ 1048576 := h.1
  have l2 : q.bits.length ≤ 1048576 := h.2.1
  refine ev_step ?_
  simp only [laws_heldQc.f, laws_heldQc.b, QcV.mk_]
  refine Ev.bind (laws_heldByteS.ev _ _ l1 a ⟨by omega, by omega⟩) (ev_neg (by omega) (Ev.bind (laws_heldByteS.ev _ _ l2 _ ⟨by omega, by omega⟩) (ev_neg (by omega) (Ev.bind (laws_heldByteSS.ev _ _ h.2.2 _ (by omega) (by omega)) (ev_neg (by omega) (ev_some ?_))))))
  simp only [QcV.w]
  omega


def zeroQc : QcV := ⟨0, 0, true, [], true, [], true, []⟩
end Go.Proofs.YtlfliciohaebfaaG
namespace Go.Proofs.YtlfliciohaebfaaG
open Go Go.Proofs.YtlfliciohaebfaaRv Go.RowKit
set_option linter.unusedVariables false
set_option linter.unusedSimpArgs false

def bitsNew (n : Int) : Bool × List Int := if 1 ≤ n ∧ n ≤ 10 then (false, List.replicate (bitsSize n).toNat 0) else (true, [])
theorem impl_BitsNew.evg (n : Int) (hn : i64r n) : Ev (fun k => impl_BitsNew.f k n) (bitsNew n) := by
  by_cases h : 1 ≤ n ∧ n ≤ 10
  · have := impl_BitsNew.ev n.toNat (by omega) (by omega)
    rw [show ((n.toNat : Nat) : Int) = n by omega] at this
    exact ev_to this (if_pos h).symm
  · refine ev_step ?_
    simp only [impl_BitsNew.f, impl_BitsNew.b]
    exact Ev.bind (impl_within.ev _ _ _) (ev_pos (by simpa using h) (ev_some (if_neg h).symm))
theorem spec_BitsNew.evg (n : Int) (hn : i64r n) : Ev (fun k => spec_BitsNew.f k n) (bitsNew n) := by
  by_cases h : 1 ≤ n ∧ n ≤ 10
  · have := spec_BitsNew.ev n.toNat (by omega) (by omega)
    rw [show ((n.toNat : Nat) : Int) = n by omega] at this
    exact ev_to this (if_pos h).symm
  · refine ev_step ?_
    simp only [spec_BitsNew.f, spec_BitsNew.b]
    exact Ev.bind (spec_l02Signers.ev _) (ev_pos (by simpa using h) (ev_some (if_neg h).symm))
theorem zeros_ok (m : Nat) : bytesOk (List.replicate m 0) := fun x hx => by
  have := List.eq_of_mem_replicate hx
  omega
theorem bitsNew_ok (n : Int) : okB (bitsNew n).2 ∧ bytesOk (bitsNew n).2 := by
  unfold bitsNew
  split
  · rename_i h
    have := bitsSize_bd (n := n.toNat) (by omega) (by omega)
    rw [show ((n.toNat : Nat) : Int) = n by omega] at this
    exact ⟨by show (List.replicate _ _).length ≤ _; rw [List.length_replicate]; omega, zeros_ok _⟩
  · exact ⟨by simp [okB], fun x hx => by simp at hx⟩
def zeroHead : Head := ⟨0, 0, 0, true, [], true, [], zeroQc⟩
def draftHead (a view : Int) (root : List Int) : Head := ⟨view, 1, 0, false, List.replicate 32 0, false, root, ⟨0, 0, false, List.replicate 32 0, (bitsNew a).1, (bitsNew a).2, true, []⟩⟩
def firstHead (a b c d e : Int) (l : List Row) (view : Int) (root : List Int) : Head × Bool :=
  if belongs a b c d e l = true ∧ headOk a b c d e (draftHead a view root) = true then (draftHead a view root, true) else (zeroHead, false)
theorem draftHead_nice (a view : Int) {root : List Int} (hr : niceB root) : (draftHead a view root).nice := by
  obtain ⟨b1, b2⟩ := bitsNew_ok a
  exact ⟨⟨by simp [draftHead, okB], hr.1, by simp [draftHead, okB], b1, by simp [draftHead, FewB]⟩, zeros_ok _, hr.2, zeros_ok _, b2, fun x hx => by simp [draftHead] at hx⟩
theorem firstHead_few (a b c d e : Int) (l : List Row) (view : Int) {root : List Int} (hr : niceB root) : (firstHead a b c d e l view root).1.few := by
  unfold firstHead
  split
  · exact (draftHead_nice a view hr).1
  · exact ⟨by simp [zeroHead, okB], by simp [zeroHead, okB], by simp [zeroHead, zeroQc, okB], by simp [zeroHead, zeroQc, okB], by simp [zeroHead, zeroQc, FewB]⟩
def headTup (x : Head) (ok : Bool) : Int × Int × Int × Bool × List Int × Bool × List Int × Int × Int × Bool × List Int × Bool × List Int × Bool × List T × Bool := (x.v, x.h, x.p, x.az, x.par, x.rz, x.root, x.q.v, x.q.h, x.q.bz, x.q.blk, x.q.mz, x.q.bits, x.q.tz, x.q.tags.map By.t, ok)
theorem impl_FirstHead.ev (a b c d e : Int) (ha : i64r a) (z : Bool) (l : List Row) (hl : Rows l) (view : Int) (y : Bool) (root : List Int) (hr : niceB root) : Ev (fun k => impl_FirstHead.f k a b c d e z (l.map Row.t) view y root) (headTup (firstHead a b c d e l view root).1 (firstHead a b c d e l view root).2) := by
  refine ev_step ?_
  simp only [impl_FirstHead.f, impl_FirstHead.b]
  refine Ev.bind (impl_copyBytes.ev _ _ (Nat.le_trans hr.1 (by decide))) (Ev.bind (impl_copyBytes.ev _ _ (by simp)) (Ev.bind (impl_BitsNew.evg a ha) (Ev.bind (impl_belongs.ev _ _ _ _ _ _ _ hl.few) (ev_ite (fun c0 => ev_some ?_) (fun c0 => ?_)))))
  · have : ¬ belongs a b c d e l = true := by simpa using c0
    unfold firstHead; rw [if_neg fun h => this h.1]; rfl
  have c0 : belongs a b c d e l = true := by simpa using c0
  refine Ev.bind (impl_HeadOk.ev a b c d e ha (draftHead a view root) (draftHead_nice a view hr)) (ev_ite (fun c1 => ev_some ?_) (fun c1 => ev_some ?_))
  · have : ¬ headOk a b c d e (draftHead a view root) = true := by simpa using c1
    unfold firstHead; rw [if_neg fun h => this h.2]; rfl
  · have : headOk a b c d e (draftHead a view root) = true := by simpa using c1
    unfold firstHead; rw [if_pos ⟨c0, this⟩]; rfl
theorem spec_FirstHead.ev (a b c d e : Int) (ha : i64r a) (z : Bool) (l : List Row) (hl : Rows l) (view : Int) (y : Bool) (root : List Int) (hr : niceB root) : Ev (fun k => spec_FirstHead.f k a b c d e z (l.map Row.t) view y root) (headTup (firstHead a b c d e l view root).1 (firstHead a b c d e l view root).2) := by
  refine ev_step ?_
  simp only [spec_FirstHead.f, spec_FirstHead.b]
  refine Ev.bind (spec_l01Copy.ev _ _ (Nat.le_trans hr.1 (by decide))) (Ev.bind (spec_BitsNew.evg a ha) (Ev.bind (spec_l23Goes.ev _ _ _ _ _ _ _ hl.few) (ev_ite (fun c0 => ev_some ?_) (fun c0 => ?_))))
  · have : ¬ belongs a b c d e l = true := by simpa using c0
    unfold firstHead; rw [if_neg fun h => this h.1]; rfl
  have c0 : belongs a b c d e l = true := by simpa using c0
  refine Ev.bind (spec_HeadOk.ev a b c d e ha (draftHead a view root) (draftHead_nice a view hr)) (ev_ite (fun c1 => ev_some ?_) (fun c1 => ev_some ?_))
  · have : ¬ headOk a b c d e (draftHead a view root) = true := by simpa using c1
    unfold firstHead; rw [if_neg fun h => this h.2]; rfl
  · have : headOk a b c d e (draftHead a view root) = true := by simpa using c1
    unfold firstHead; rw [if_pos ⟨c0, this⟩]; rfl
def Head.w (x : Head) : Nat := x.par.length + x.root.length + x.q.w
theorem laws_markHead.ev (x : Head) (h : x.few) : Ev (fun k => laws_markHead.f k x.v x.h x.p x.az x.par x.rz x.root x.q.v x.q.h x.q.bz x.q.blk x.q.mz x.q.bits x.q.tz (x.q.tags.map By.t) 1) (1 + (x.w : Nat), x.v, x.h, x.p, x.az, mk8 x.par.length 1, x.rz, mk8 x.root.length (1 + x.par.length), x.q.v, x.q.h, x.q.bz, (x.q.mk_ (1 + x.par.length + x.root.length)).blk, x.q.mz, (x.q.mk_ (1 + x.par.length + x.root.length)).bits, x.q.tz, (x.q.mk_ (1 + x.par.length + x.root.length)).tags.map By.t) := by
  have l1 : x.par.length ≤ 1048576 := h.1
  have l2 : x.root.length ≤ 1048576 := h.2.1
  refine ev_step ?_
  simp only [laws_markHead.f, laws_markHead.b]
  refine Ev.bind (laws_markByteS.ev _ _ h.1 1 ⟨by omega, by omega⟩) (Ev.bind (laws_markByteS.ev _ _ h.2.1 _ ⟨by simp only []; omega, by simp only []; omega⟩) (Ev.bind (laws_markQc.ev x.q h.2.2 _ (by simp only []; omega) (by simp only []; omega)) (ev_some ?_)))
  simp only [Head.w]
  congr 1
  omega
theorem laws_heldHead.ev (x : Head) (h : x.few) : Ev (fun k => laws_heldHead.f k x.v x.h x.p x.az (mk8 x.par.length 1) x.rz (mk8 x.root.length (1 + x.par.length)) x.q.v x.q.h x.q.bz (x.q.mk_ (1 + x.par.length + x.root.length)).blk x.q.mz (x.q.mk_ (1 + x.par.length + x.root.length)).bits x.q.tz ((x.q.mk_ (1 + x.par.length + x.root.length)).tags.map By.t) 1) (1 + (x.w : Nat)) := by
  have l1 : x.par.length ≤ 1048576 := h.1
  have l2 : x.root.length ≤ 1048576 := h.2.1
  refine ev_step ?_
  simp only [laws_heldHead.f, laws_heldHead.b]
  refine Ev.bind (laws_heldByteS.ev _ _ l1 1 ⟨by omega, by omega⟩) (ev_neg (by omega) (Ev.bind (laws_heldByteS.ev _ _ l2 _ ⟨by omega, by omega⟩) (ev_neg (by omega) (Ev.bind (laws_heldQc.ev x.q h.2.2 _ (by omega) (by omega)) (ev_neg (by omega) (ev_some ?_))))))
  simp only [Head.w]
  omega
theorem laws_FnExactFirstHead.ev (a b c d e : Int) (ha : i64r a) (z : Bool) (l : List Row) (hf : Fit l) (hb : ∀ r ∈ l, bytesOk r.f1) (view : Int) (y : Bool) (root : List Int) (hr : bytesOk root) : Ev (fun k => laws_FnExactFirstHead.f k a b c d e z (l.map Row.t) view y root) true := by
  refine ev_step ?_
  simp only [laws_FnExactFirstHead.f, laws_FnExactFirstHead.b]
  refine ev_ite (fun _ => ev_some rfl) fun q1 => ?_
  have o1 : okB root := by unfold okB; omega
  obtain ⟨r, e1, s⟩ := laws_szTable.ev z l hf 1048576 (by omega) (by omega)
  rcases s with rfl | ⟨s1, s2, few⟩
  · exact Ev.bind e1 (ev_pos (by omega) (ev_some rfl))
  refine Ev.bind e1 (ev_neg (by omega) ?_)
  have few2 := few_cp few
  have rows := rows_cp few hb
  have L := laws_toLimits.ev a b c d e
  have T := laws_toTable.ev z l few
  have B := laws_toByteS.ev y root o1
  have S := spec_FirstHead.ev a b c d e ha false _ rows view false root ⟨o1, hr⟩
  have I := impl_FirstHead.ev a b c d e ha false _ rows view false root ⟨o1, hr⟩
  have fw := firstHead_few a b c d e (l.map Row.cp) view (root := root) ⟨o1, hr⟩
  generalize firstHead a b c d e (l.map Row.cp) view root = q at *
  obtain ⟨p, mt, p1, p2⟩ := laws_markTable.ev false _ few2 1 (by omega) (by omega)
  have MB := laws_markByteS.ev false root o1 p.1 ⟨by omega, by omega⟩
  have Q := laws_eqHead.ev q.1 fw
  have MQ := laws_markHead.ev q.1 fw
  have HQ := laws_heldHead.ev q.1 fw
  refine Ev.bind L (Ev.bind T (Ev.bind B (Ev.bind S (Ev.bind T (Ev.bind B (Ev.bind L (Ev.bind I (Ev.bind Q (ev_neg (by simp) (ev_neg (by simp) (Ev.bind T (Ev.bind (laws_eqTable.ev _ _ _ few2) (ev_neg (by simp) (Ev.bind B (Ev.bind (laws_eqByteS.ev _ _ _ o1) (ev_neg (by simp) (Ev.bind mt (Ev.bind MB (ev_neg (by simp only []; omega) (Ev.bind Q (ev_neg (by simp) (ev_neg (by simp) (Ev.bind MQ (Ev.bind HQ (ev_neg (by omega) (ev_neg (by simp) (Ev.bind L (Ev.bind T (Ev.bind B (Ev.bind I (Ev.bind Q (ev_neg (by simp) (ev_neg (by simp) (Ev.bind HQ (ev_neg (by omega) (ev_neg (by simp) (ev_some rfl)))))))))))))))))))))))))))))))))))))
theorem laws_FnExactFirstHead.top (x0 : Lm) (g0 : Lm.good x0) (x1 : Sl Row) (g1 : Tab.good x1) (x2 : Int) (g2 : goodI x2) (x3 : By) (g3 : x3.good) : Ev (fun k => laws_FnExactFirstHead.f k x0.l0 x0.l1 x0.l2 x0.l3 x0.l4 x1.z (x1.l.map Row.t) x2 x3.z x3.l) true :=
  laws_FnExactFirstHead.ev _ _ _ _ _ (goodI_bd g0.1) _ _ (fit_rows g1) (bytes_rows g1) _ _ _ (By.bytes g3)
end Go.Proofs.YtlfliciohaebfaaG
