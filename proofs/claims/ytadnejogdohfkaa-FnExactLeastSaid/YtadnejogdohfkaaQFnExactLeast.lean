/- What the printed forms answer, over numbers and lists alone. Each lemma names its conditions. -/
import Derived.Test.YtadnejogdohfkaaGFnExactLeastb
namespace Go.Proofs.YtadnejogdohfkaaG
open Go Go.Proofs.YtadnejogdohfkaaRv Go.RowKit
set_option linter.unusedVariables false
set_option linter.unusedSimpArgs false


theorem impl_within.ev (a b c : Int) : Ev (fun k => impl_within.f k a b c) (decide (b ≤ a ∧ a ≤ c)) := by
  refine ev_step ?_
  simp only [impl_within.f, impl_within.b]
  exact ev_ite (fun h => ev_some (by simp [h])) (fun h => ev_some (by simp [h]))
theorem spec_l01In.ev (a b c : Int) : Ev (fun k => spec_l01In.f k a b c) (decide (b ≤ a ∧ a ≤ c)) := by
  refine ev_step ?_
  simp only [spec_l01In.f, spec_l01In.b]
  exact ev_ite (fun h => ev_some (by simp [show b ≤ a from h])) (fun h => ev_some (by simp [show ¬ b ≤ a from h]))
theorem spec_l01Copy.ev (z : Bool) (l : List Int) (h : l.length ≤ 1073741824) : Ev (fun k => spec_l01Copy.f k z l) (false, l) := by
  refine ev_step ?_
  simp only [spec_l01Copy.f, spec_l01Copy.b]
  exact ev_pos (by omega) (ev_some (by simp))



structure Row where
  f0 : Int
  z : Bool
  f1 : List Int
instance : Inhabited Row := ⟨⟨0, false, []⟩⟩
def Row.t (r : Row) : T := .agg [.int .i64 r.f0, .nums 5 .u8 r.z r.f1]
theorem row_at {l : List Row} {i : Nat} (h : i < l.length) : (l.map Row.t).getD i .bad = (l[i]).t := by simp [List.getD_eq_getElem?_getD, h]
theorem Row.c0 (r : Row) : (r.t.cells.getD 0 .bad).toInt = r.f0 := rfl
theorem Row.c1z (r : Row) : (r.t.cells.getD 1 .bad).isNil = r.z := rfl
theorem Row.c1 (r : Row) : (r.t.cells.getD 1 .bad).toNums = r.f1 := rfl

def rowOk (r : Row) : Bool := decide (1 ≤ r.f0 ∧ r.f0 ≤ 1099511627776) && decide (1 ≤ r.f1.length ∧ r.f1.length ≤ 64)
def tabOk (l : List Row) : Bool := l.all rowOk && decide (1 ≤ l.length ∧ l.length ≤ 10)
theorem tabOk_iff {l : List Row} : tabOk l = true ↔ (∀ r ∈ l, (1 ≤ r.f0 ∧ r.f0 ≤ 1099511627776) ∧ 1 ≤ r.f1.length ∧ r.f1.length ≤ 64) ∧ 1 ≤ l.length ∧ l.length ≤ 10 := by
  simp [tabOk, rowOk]
theorem impl_TableOk.ev0 (z : Bool) (l : List Row) (h : l.length ≤ 1048576) : ∀ (d n : Nat), n + d = l.length → Ev (fun k => impl_TableOk.l0 k z (l.map Row.t) (l.length : Int) (n : Int) z (l.map Row.t)) ((l.drop n).all rowOk && decide (1 ≤ l.length ∧ l.length ≤ 10))
  | 0, n, hn => by
    refine ev_step ?_
    simp only [impl_TableOk.l0, impl_TableOk.l0b]
    refine ev_neg (by omega) (Ev.bind (impl_within.ev _ _ _) (ev_some ?_))
    rw [List.drop_of_length_le (by omega), List.length_map]
    have e : (1 ≤ (l.length : Int) ∧ (l.length : Int) ≤ 10) ↔ (1 ≤ l.length ∧ l.length ≤ 10) := by omega
    simp [e]
  | d + 1, n, hn => by
    have hlt : n < l.length := by omega
    refine ev_step ?_
    simp only [impl_TableOk.l0, impl_TableOk.l0b, Int.toNat_natCast, row_at hlt, Row.c0, Row.c1, List.length_map]
    refine ev_pos (by omega) (ev_pos (by omega) (ev_pos (by omega) (Ev.bind (impl_within.ev _ _ _) ?_)))
    rw [List.drop_eq_getElem_cons hlt, List.all_cons]
    refine ev_ite (fun c1 => ev_some ?_) (fun c1 => Ev.bind (impl_within.ev _ _ _) (ev_ite (fun c2 => ev_some ?_) (fun c2 => ?_)))
    · simp at c1
      have : ¬ (1 ≤ (l[n]).f0 ∧ (l[n]).f0 ≤ 1099511627776) := by omega
      simp [rowOk, this]
    · simp at c2
      have : ¬ (1 ≤ (l[n]).f1.length ∧ (l[n]).f1.length ≤ 64) := by omega
      simp [rowOk, this]
    · rw [w64s (by omega)]
      have ih := impl_TableOk.ev0 z l h d (n + 1) (by omega)
      refine ev_to ih ?_
      simp at c1 c2
      have c3 : 1 ≤ (l[n]).f1.length ∧ (l[n]).f1.length ≤ 64 := by omega
      simp [rowOk, c1, c3]
theorem impl_TableOk.ev (z : Bool) (l : List Row) (h : l.length ≤ 1048576) : Ev (fun k => impl_TableOk.f k z (l.map Row.t)) (tabOk l) := by
  refine ev_step ?_
  simp only [impl_TableOk.f, impl_TableOk.b, List.length_map]
  exact ev_to (impl_TableOk.ev0 z l h l.length 0 (by omega)) (by simp [tabOk])
theorem spec_l02Signers.ev (a : Int) : Ev (fun k => spec_l02Signers.f k a) (decide (1 ≤ a ∧ a ≤ 10)) := by
  refine ev_step ?_
  simp only [spec_l02Signers.f, spec_l02Signers.b]
  exact Ev.bind (spec_l01In.ev _ _ _) (ev_some rfl)
theorem spec_TableOk.ev0 (z : Bool) (l : List Row) (h : l.length ≤ 1048576) : ∀ (d n : Nat), n + d = l.length → Ev (fun k => spec_TableOk.l0 k z (l.map Row.t) (l.length : Int) (n : Int) z (l.map Row.t)) ((l.drop n).all rowOk && decide (1 ≤ l.length ∧ l.length ≤ 10))
  | 0, n, hn => by
    refine ev_step ?_
    simp only [spec_TableOk.l0, spec_TableOk.l0b]
    refine ev_neg (by omega) (Ev.bind (spec_l02Signers.ev _) (ev_some ?_))
    rw [List.drop_of_length_le (by omega), List.length_map]
    have e : (1 ≤ (l.length : Int) ∧ (l.length : Int) ≤ 10) ↔ (1 ≤ l.length ∧ l.length ≤ 10) := by omega
    simp [e]
  | d + 1, n, hn => by
    have hlt : n < l.length := by omega
    refine ev_step ?_
    simp only [spec_TableOk.l0, spec_TableOk.l0b, Int.toNat_natCast, row_at hlt, Row.c0, Row.c1, List.length_map]
    refine ev_pos (by omega) (ev_pos (by omega) (ev_pos (by omega) (Ev.bind (spec_l01In.ev _ _ _) ?_)))
    rw [List.drop_eq_getElem_cons hlt, List.all_cons]
    refine ev_ite (fun c1 => ev_some ?_) (fun c1 => Ev.bind (spec_l01In.ev _ _ _) (ev_ite (fun c2 => ev_some ?_) (fun c2 => ?_)))
    · simp at c1
      have : ¬ (1 ≤ (l[n]).f0 ∧ (l[n]).f0 ≤ 1099511627776) := by omega
      simp [rowOk, this]
    · simp at c2
      have : ¬ (1 ≤ (l[n]).f1.length ∧ (l[n]).f1.length ≤ 64) := by omega
      simp [rowOk, this]
    · rw [w64s (by omega)]
      have ih := spec_TableOk.ev0 z l h d (n + 1) (by omega)
      refine ev_to ih ?_
      simp at c1 c2
      have c3 : 1 ≤ (l[n]).f1.length ∧ (l[n]).f1.length ≤ 64 := by omega
      simp [rowOk, c1, c3]
theorem spec_TableOk.ev (z : Bool) (l : List Row) (h : l.length ≤ 1048576) : Ev (fun k => spec_TableOk.f k z (l.map Row.t)) (tabOk l) := by
  refine ev_step ?_
  simp only [spec_TableOk.f, spec_TableOk.b, List.length_map]
  exact ev_to (spec_TableOk.ev0 z l h l.length 0 (by omega)) (by simp [tabOk])
end Go.Proofs.YtadnejogdohfkaaG
namespace Go.Proofs.YtadnejogdohfkaaG
open Go Go.Proofs.YtadnejogdohfkaaRv Go.RowKit
set_option linter.unusedVariables false
set_option linter.unusedSimpArgs false


theorem rdI_nat {l : List Int} {n : Nat} (h : n < l.length) : rdI l (n : Int) = l[n] := by simp [rdI, h]
def bytesOk (b : List Int) : Prop := ∀ x ∈ b, 0 ≤ x ∧ x < 256

end Go.Proofs.YtadnejogdohfkaaG
namespace Go.Proofs.YtadnejogdohfkaaG
open Go Go.Proofs.YtadnejogdohfkaaRv Go.RowKit
set_option linter.unusedVariables false
set_option linter.unusedSimpArgs false

section
variable (y0 y1 y2 : Bool) (h b : List Int)



end
end Go.Proofs.YtadnejogdohfkaaG
namespace Go.Proofs.YtadnejogdohfkaaG
open Go Go.Proofs.YtadnejogdohfkaaRv Go.RowKit
set_option linter.unusedVariables false
set_option linter.unusedSimpArgs false


section
variable (z : Bool) (l : List Int)
end


theorem succ_nat (i : Nat) (h : i ≤ 1000000000) : wrap64 ((i : Int) + 1) = ((i + 1 : Nat) : Int) := by unfold wrap64; omega

end Go.Proofs.YtadnejogdohfkaaG
namespace Go.Proofs.YtadnejogdohfkaaG
open Go Go.Proofs.YtadnejogdohfkaaRv Go.RowKit
set_option linter.unusedVariables false
set_option linter.unusedSimpArgs false


def Row.ok (r : Row) : Prop := r.f1.length ≤ 1048576 ∧ bytesOk r.f1
def Rows (l : List Row) : Prop := l.length ≤ 1048576 ∧ ∀ r ∈ l, r.ok
theorem laws_szByteS.ev (z : Bool) (l : List Int) (h : l.length ≤ 9223372036854775807) (a : Int) (h0 : 0 ≤ a) (h1 : a ≤ 1048576) : ∃ r, Ev (fun k => laws_szByteS.f k z l a) r ∧ SzR (okB l) a r := by
  have e : wrap64 (a - (l.length : Int)) = a - (l.length : Int) := w64 (by omega) (by omega)
  by_cases c : (l.length : Int) ≤ a
  · refine ⟨a - l.length, ev_step ?_, Or.inr ⟨by omega, by omega, by unfold okB; omega⟩⟩
    simp only [laws_szByteS.f, laws_szByteS.b, e]
    clear e
    exact ev_neg (by omega) (ev_some rfl)
  · refine ⟨-1, ev_step ?_, Or.inl rfl⟩
    simp only [laws_szByteS.f, laws_szByteS.b, e]
    clear e
    exact ev_pos (by omega) (ev_some rfl)
def Row.fit (r : Row) : Prop := r.f1.length ≤ 9223372036854775807
theorem laws_szRow.ev (r : Row) (h : r.fit) (a : Int) (h0 : 0 ≤ a) (h1 : a ≤ 1048576) : ∃ q, Ev (fun k => laws_szRow.f k r.f0 r.z r.f1 a) q ∧ SzR (okB r.f1) a q := by
  obtain ⟨q, e, s⟩ := laws_szByteS.ev r.z r.f1 h a h0 h1
  rcases s with rfl | ⟨s1, s2, s3⟩
  · refine ⟨-1, ev_step ?_, Or.inl rfl⟩
    simp only [laws_szRow.f, laws_szRow.b]
    exact Ev.bind e (ev_pos (by omega) (ev_some rfl))
  · refine ⟨q, ev_step ?_, Or.inr ⟨s1, s2, s3⟩⟩
    simp only [laws_szRow.f, laws_szRow.b]
    exact Ev.bind e (ev_neg (by omega) (ev_some rfl))
theorem laws_szRowS.ev0 (z : Bool) (l : List Row) (hl : l.length ≤ 1048576) (h : ∀ r ∈ l, r.fit) : ∀ (d n : Nat) (a : Int), n + d = l.length → 0 ≤ a → a ≤ 1048576 → ∃ q, Ev (fun k => laws_szRowS.l0 k z (l.map Row.t) a (n : Int)) q ∧ SzR (∀ r ∈ l.drop n, okB r.f1) a q
  | 0, n, a, hn, h0, h1 => by
    refine ⟨a, ev_step ?_, Or.inr ⟨h0, by omega, fun r hr => ?_⟩⟩
    · simp only [laws_szRowS.l0, laws_szRowS.l0b, List.length_map]
      exact ev_neg (by omega) (ev_some rfl)
    · rw [List.drop_of_length_le (by omega)] at hr; cases hr
  | d + 1, n, a, hn, h0, h1 => by
    have hlt : n < l.length := by omega
    obtain ⟨q, e, s⟩ := laws_szRow.ev l[n] (h _ (List.getElem_mem hlt)) a h0 h1
    rcases s with rfl | ⟨s1, s2, s3⟩
    · refine ⟨-1, ev_step ?_, Or.inl rfl⟩
      simp only [laws_szRowS.l0, laws_szRowS.l0b, List.length_map, Int.toNat_natCast, row_at hlt, Row.c0, Row.c1, Row.c1z]
      exact ev_pos (by omega) (ev_pos (by omega) (ev_pos (by omega) (Ev.bind e (ev_pos (by omega) (ev_some rfl)))))
    · obtain ⟨p, e2, s'⟩ := laws_szRowS.ev0 z l hl h d (n + 1) q (by omega) s1 (by omega)
      refine ⟨p, ev_step ?_, ?_⟩
      · simp only [laws_szRowS.l0, laws_szRowS.l0b, List.length_map, Int.toNat_natCast, row_at hlt, Row.c0, Row.c1, Row.c1z, succ_nat n (by omega)]
        exact ev_pos (by omega) (ev_pos (by omega) (ev_pos (by omega) (Ev.bind e (ev_neg (by omega) e2))))
      · rcases s' with rfl | ⟨t1, t2, t3⟩
        · exact Or.inl rfl
        · refine Or.inr ⟨t1, by omega, fun r hr => ?_⟩
          rw [List.drop_eq_getElem_cons hlt] at hr
          rcases List.mem_cons.1 hr with rfl | hr
          · exact s3
          · exact t3 r hr
def Fit (l : List Row) : Prop := l.length ≤ 9223372036854775807 ∧ ∀ r ∈ l, r.fit
def Few (l : List Row) : Prop := l.length ≤ 1048576 ∧ ∀ r ∈ l, okB r.f1
theorem laws_szRowS.ev (z : Bool) (l : List Row) (h : Fit l) (a : Int) (h0 : 0 ≤ a) (h1 : a ≤ 1048576) : ∃ q, Ev (fun k => laws_szRowS.f k z (l.map Row.t) a) q ∧ SzR (Few l) a q := by
  have hl := h.1
  have e : wrap64 (a - (l.length : Int)) = a - (l.length : Int) := w64 (by omega) (by omega)
  by_cases c : (l.length : Int) ≤ a
  · obtain ⟨q, e2, s⟩ := laws_szRowS.ev0 z l (by clear e; omega) h.2 l.length 0 (a - l.length) (by omega) (by clear e; omega) (by clear e; omega)
    refine ⟨q, ev_step ?_, ?_⟩
    · simp only [laws_szRowS.f, laws_szRowS.b, List.length_map, e]
      clear e
      exact ev_neg (by omega) e2
    · clear e
      rcases s with rfl | ⟨t1, t2, t3⟩
      · exact Or.inl rfl
      · exact Or.inr ⟨t1, by omega, by omega, t3⟩
  · refine ⟨-1, ev_step ?_, Or.inl rfl⟩
    simp only [laws_szRowS.f, laws_szRowS.b, List.length_map, e]
    clear e
    exact ev_pos (by omega) (ev_some rfl)
theorem laws_szTable.ev (z : Bool) (l : List Row) (h : Fit l) (a : Int) (h0 : 0 ≤ a) (h1 : a ≤ 1048576) : ∃ q, Ev (fun k => laws_szTable.f k z (l.map Row.t) a) q ∧ SzR (Few l) a q := by
  obtain ⟨q, e, s⟩ := laws_szRowS.ev z l h a h0 h1
  rcases s with rfl | ⟨s1, s2, s3⟩
  · refine ⟨-1, ev_step ?_, Or.inl rfl⟩
    simp only [laws_szTable.f, laws_szTable.b]
    exact Ev.bind e (ev_pos (by omega) (ev_some rfl))
  · refine ⟨q, ev_step ?_, Or.inr ⟨s1, s2, s3⟩⟩
    simp only [laws_szTable.f, laws_szTable.b]
    exact Ev.bind e (ev_neg (by omega) (ev_some rfl))

theorem laws_toByteS.ev (z : Bool) (l : List Int) (h : okB l) : Ev (fun k => laws_toByteS.f k z l) (false, l) := by
  have hl : l.length ≤ 1048576 := h
  refine ev_step ?_
  simp only [laws_toByteS.f, laws_toByteS.b]
  refine ev_pos trivial (ev_pos (by omega) (ev_pos (by omega) ?_))
  have key : ∀ (d n : Nat) (ys : List Int), n + d = l.length → ys.length = l.length → ys.take n = l.take n → Ev (fun k => laws_toByteS.l0 k z l ys (n : Int)) (false, l) := by
    intro d
    induction d with
    | zero =>
      intro n ys hn hy ht
      refine ev_step ?_
      simp only [laws_toByteS.l0, laws_toByteS.l0b]
      refine ev_neg (by omega) (ev_some ?_)
      obtain rfl : n = l.length := by omega
      rw [List.take_length, ← hy, List.take_length] at ht
      rw [ht]
    | succ d ih =>
      intro n ys hn hy ht
      have hlt : n < l.length := by omega
      refine ev_step ?_
      have i2 := ih (n + 1) (ys.set n l[n]) (by omega) (by simp [hy]) (by
        rw [List.take_succ_eq_append_getElem (by simp; omega), List.take_succ_eq_append_getElem hlt, List.take_set_of_le (Nat.le_refl n), ht, List.getElem_set_self])
      simp only [laws_toByteS.l0, laws_toByteS.l0b, rdI_nat hlt, succ_nat n (by omega), Int.toNat_natCast]
      exact ev_pos (by omega) (ev_pos (by omega) (ev_pos (by omega) (ev_pos (by omega) (ev_pos (by omega) i2))))
  exact key l.length 0 _ (by omega) (by simp) (by simp)
def Row.cp (r : Row) : Row := ⟨r.f0, false, r.f1⟩
theorem laws_toRow.ev (r : Row) (h : okB r.f1) : Ev (fun k => laws_toRow.f k r.f0 r.z r.f1) (r.f0, false, r.f1) := by
  refine ev_step ?_
  simp only [laws_toRow.f, laws_toRow.b]
  exact Ev.bind (laws_toByteS.ev r.z r.f1 h) (ev_some rfl)
theorem laws_toRowS.ev (z : Bool) (l : List Row) (h : Few l) : Ev (fun k => laws_toRowS.f k z (l.map Row.t)) (false, (l.map Row.cp).map Row.t) := by
  have hl : l.length ≤ 1048576 := h.1
  refine ev_step ?_
  simp only [laws_toRowS.f, laws_toRowS.b, List.length_map]
  refine ev_pos trivial (ev_pos (by omega) (ev_pos (by omega) ?_))
  have key : ∀ (d n : Nat) (ys : List T), n + d = l.length → ys.length = l.length → ys.take n = ((l.map Row.cp).map Row.t).take n → Ev (fun k => laws_toRowS.l0 k z (l.map Row.t) ys (n : Int)) (false, (l.map Row.cp).map Row.t) := by
    intro d
    induction d with
    | zero =>
      intro n ys hn hy ht
      refine ev_step ?_
      simp only [laws_toRowS.l0, laws_toRowS.l0b, List.length_map]
      refine ev_neg (by omega) (ev_some ?_)
      rw [List.take_of_length_le (by omega), List.take_of_length_le (by simp; omega)] at ht
      rw [ht]
    | succ d ih =>
      intro n ys hn hy ht
      have hlt : n < l.length := by omega
      refine ev_step ?_
      have i2 := ih (n + 1) (ys.set n (l[n].cp).t) (by omega) (by simp [hy]) (by
        rw [List.take_succ_eq_append_getElem (by simp; omega), List.take_succ_eq_append_getElem (by simp; omega), List.take_set_of_le (Nat.le_refl n), ht, List.getElem_set_self]
        simp)
      simp only [laws_toRowS.l0, laws_toRowS.l0b, List.length_map, succ_nat n (by omega), Int.toNat_natCast, row_at hlt, Row.c0, Row.c1, Row.c1z]
      exact ev_pos (by omega) (ev_pos (by omega) (ev_pos (by omega) (Ev.bind (laws_toRow.ev l[n] (h.2 _ (List.getElem_mem hlt))) (ev_pos (by omega) (ev_pos (by omega) i2)))))
  exact key l.length 0 _ (by omega) (by simp) (by simp)
theorem laws_toTable.ev (z : Bool) (l : List Row) (h : Few l) : Ev (fun k => laws_toTable.f k z (l.map Row.t)) (false, (l.map Row.cp).map Row.t) := by
  refine ev_step ?_
  simp only [laws_toTable.f, laws_toTable.b]
  exact Ev.bind (laws_toRowS.ev z l h) (ev_some rfl)

theorem laws_eqByteS.ev (y z : Bool) (l : List Int) (h : okB l) : Ev (fun k => laws_eqByteS.f k y l z l) true := by
  have hl : l.length ≤ 1048576 := h
  refine ev_step ?_
  simp only [laws_eqByteS.f, laws_eqByteS.b]
  refine ev_neg (by simp) ?_
  have key : ∀ (d n : Nat), n + d = l.length → Ev (fun k => laws_eqByteS.l0 k y l z l (n : Int)) true := by
    intro d
    induction d with
    | zero =>
      intro n hn
      refine ev_step ?_
      simp only [laws_eqByteS.l0, laws_eqByteS.l0b]
      exact ev_neg (by omega) (ev_some rfl)
    | succ d ih =>
      intro n hn
      refine ev_step ?_
      simp only [laws_eqByteS.l0, laws_eqByteS.l0b, succ_nat n (by omega)]
      exact ev_pos (by omega) (ev_pos (by omega) (ev_pos (by omega) (ev_pos (by omega) (ev_pos (by omega) (ev_neg (by simp) (ih (n + 1) (by omega)))))))
  exact key l.length 0 (by omega)
theorem laws_eqRow.ev (r : Row) (h : okB r.f1) : Ev (fun k => laws_eqRow.f k r.f0 r.z r.f1 r.f0 r.z r.f1) true := by
  refine ev_step ?_
  simp only [laws_eqRow.f, laws_eqRow.b]
  exact ev_neg (by simp) (Ev.bind (laws_eqByteS.ev _ _ _ h) (ev_neg (by simp) (ev_some rfl)))
theorem laws_eqRowS.ev (y z : Bool) (l : List Row) (h : Few l) : Ev (fun k => laws_eqRowS.f k y (l.map Row.t) z (l.map Row.t)) true := by
  have hl : l.length ≤ 1048576 := h.1
  refine ev_step ?_
  simp only [laws_eqRowS.f, laws_eqRowS.b]
  refine ev_neg (by simp) ?_
  have key : ∀ (d n : Nat), n + d = l.length → Ev (fun k => laws_eqRowS.l0 k y (l.map Row.t) z (l.map Row.t) (n : Int)) true := by
    intro d
    induction d with
    | zero =>
      intro n hn
      refine ev_step ?_
      simp only [laws_eqRowS.l0, laws_eqRowS.l0b, List.length_map]
      exact ev_neg (by omega) (ev_some rfl)
    | succ d ih =>
      intro n hn
      have hlt : n < l.length := by omega
      refine ev_step ?_
      simp only [laws_eqRowS.l0, laws_eqRowS.l0b, List.length_map, Int.toNat_natCast, row_at hlt, Row.c0, Row.c1, Row.c1z, succ_nat n (by omega)]
      exact ev_pos (by omega) (ev_pos (by omega) (ev_pos (by omega) (ev_pos (by omega) (ev_pos (by omega) (Ev.bind (laws_eqRow.ev l[n] (h.2 _ (List.getElem_mem hlt))) (ev_neg (by simp) (ih (n + 1) (by omega))))))))
  exact key l.length 0 (by omega)
theorem laws_eqTable.ev (y z : Bool) (l : List Row) (h : Few l) : Ev (fun k => laws_eqTable.f k y (l.map Row.t) z (l.map Row.t)) true := by
  refine ev_step ?_
  simp only [laws_eqTable.f, laws_eqTable.b]
  exact Ev.bind (laws_eqRowS.ev y z l h) (ev_neg (by simp) (ev_some rfl))

theorem few_cp {l : List Row} (h : Few l) : Few (l.map Row.cp) := ⟨by simpa using h.1, fun r hr => by
  obtain ⟨x, hx, rfl⟩ := List.mem_map.1 hr
  exact h.2 x hx⟩
end Go.Proofs.YtadnejogdohfkaaG
namespace Go.Proofs.YtadnejogdohfkaaG
open Go Go.Proofs.YtadnejogdohfkaaRv Go.RowKit
set_option linter.unusedVariables false
set_option linter.unusedSimpArgs false

end Go.Proofs.YtadnejogdohfkaaG
namespace Go.Proofs.YtadnejogdohfkaaG
open Go Go.Proofs.YtadnejogdohfkaaRv Go.RowKit
set_option linter.unusedVariables false
set_option linter.unusedSimpArgs false

structure By where
  z : Bool
  l : List Int
instance : Inhabited By := ⟨⟨false, []⟩⟩
def By.t (b : By) : T := .nums 5 .u8 b.z b.l
def By.cp (b : By) : By := ⟨false, b.l⟩
theorem By.c0 (b : By) : (b.t.cells.getD 0 .bad).toNums = b.l := rfl
def FitB (l : List By) : Prop := l.length ≤ 9223372036854775807 ∧ ∀ b ∈ l, b.l.length ≤ 9223372036854775807
def FewB (l : List By) : Prop := l.length ≤ 1048576 ∧ ∀ b ∈ l, okB b.l
theorem fewB_cp {l : List By} (h : FewB l) : FewB (l.map By.cp) := ⟨by simpa using h.1, fun r hr => by
  obtain ⟨x, hx, rfl⟩ := List.mem_map.1 hr
  exact h.2 x hx⟩
structure QcV where
  v : Int
  h : Int
  bz : Bool
  blk : List Int
  mz : Bool
  bits : List Int
  tz : Bool
  tags : List By
structure Head where
  v : Int
  h : Int
  p : Int
  az : Bool
  par : List Int
  rz : Bool
  root : List Int
  q : QcV
instance : Inhabited Head := ⟨⟨0, 0, 0, false, [], false, [], ⟨0, 0, false, [], false, [], false, []⟩⟩⟩
def Head.t (x : Head) : T := .agg [.int .i64 x.v, .int .i64 x.h, .int .i64 x.p, .nums 5 .u8 x.az x.par, .nums 5 .u8 x.rz x.root, .int .i64 x.q.v, .int .i64 x.q.h, .nums 5 .u8 x.q.bz x.q.blk, .nums 5 .u8 x.q.mz x.q.bits, .sl 45 x.q.tz (x.q.tags.map By.t)]
section
variable (x : Head)
theorem Head.c0 : (x.t.cells.getD 0 .bad).toInt = x.v := rfl
theorem Head.c1 : (x.t.cells.getD 1 .bad).toInt = x.h := rfl
theorem Head.c2 : (x.t.cells.getD 2 .bad).toInt = x.p := rfl
theorem Head.c3 : (x.t.cells.getD 3 .bad).toNums = x.par := rfl
end
def QcV.cp (q : QcV) : QcV := ⟨q.v, q.h, false, q.blk, false, q.bits, false, q.tags.map By.cp⟩
def Head.cp (x : Head) : Head := ⟨x.v, x.h, x.p, false, x.par, false, x.root, x.q.cp⟩
def QcV.fit (q : QcV) : Prop := q.blk.length ≤ 9223372036854775807 ∧ q.bits.length ≤ 9223372036854775807 ∧ FitB q.tags
def QcV.few (q : QcV) : Prop := okB q.blk ∧ okB q.bits ∧ FewB q.tags
def Head.fit (x : Head) : Prop := x.par.length ≤ 9223372036854775807 ∧ x.root.length ≤ 9223372036854775807 ∧ x.q.fit
def Head.few (x : Head) : Prop := okB x.par ∧ okB x.root ∧ x.q.few
theorem Head.few_cp {x : Head} (h : x.few) : x.cp.few := ⟨h.1, h.2.1, h.2.2.1, h.2.2.2.1, fewB_cp h.2.2.2.2⟩
def FitH (l : List Head) : Prop := l.length ≤ 9223372036854775807 ∧ ∀ x ∈ l, x.fit
def FewH (l : List Head) : Prop := l.length ≤ 1048576 ∧ ∀ x ∈ l, x.few
end Go.Proofs.YtadnejogdohfkaaG
namespace Go.Proofs.YtadnejogdohfkaaG
open Go Go.Proofs.YtadnejogdohfkaaRv Go.RowKit
set_option linter.unusedVariables false
set_option linter.unusedSimpArgs false

structure Light where
  l0 : Int
  l1 : Int
  l2 : Int
  l3 : Int
  l4 : Int
  rz : Bool
  rows : List Row
  skip : Int
  bz : Bool
  buf : List Int
  cz : Bool
  chain : List Head
def Light.cp (x : Light) : Light := ⟨x.l0, x.l1, x.l2, x.l3, x.l4, false, x.rows.map Row.cp, x.skip, false, x.buf, false, x.chain.map Head.cp⟩
def Light.fit (x : Light) : Prop := Fit x.rows ∧ x.buf.length ≤ 9223372036854775807 ∧ FitH x.chain
def Light.few (x : Light) : Prop := Few x.rows ∧ okB x.buf ∧ FewH x.chain
end Go.Proofs.YtadnejogdohfkaaG
namespace Go.Proofs.YtadnejogdohfkaaG
open Go Go.Proofs.YtadnejogdohfkaaRv Go.RowKit
set_option linter.unusedVariables false
set_option linter.unusedSimpArgs false

structure Sl (α : Type) where
  z : Bool
  l : List α
def goodI (n : Int) : Prop := (Lit.int .i64 n).wf = true
def By.good (b : By) : Prop := b.l.length ≤ 9223372036854775807 ∧ ∀ n ∈ b.l, (Lit.int .u8 n).wf = true
def GoodL {α : Type} (g : α → Prop) (l : List α) : Prop := l.length ≤ 9223372036854775807 ∧ ∀ x ∈ l, g x
def Row.good (r : Row) : Prop := goodI r.f0 ∧ By.good ⟨r.z, r.f1⟩
def Tab.good (x : Sl Row) : Prop := GoodL Row.good x.l
def QcV.good (q : QcV) : Prop := goodI q.v ∧ goodI q.h ∧ By.good ⟨q.bz, q.blk⟩ ∧ By.good ⟨q.mz, q.bits⟩ ∧ GoodL By.good q.tags
def Head.good (h : Head) : Prop := goodI h.v ∧ goodI h.h ∧ goodI h.p ∧ By.good ⟨h.az, h.par⟩ ∧ By.good ⟨h.rz, h.root⟩ ∧ h.q.good
theorem fit_rows {l : List Row} (h : GoodL Row.good l) : Fit l := ⟨h.1, fun r hr => (h.2 r hr).2.1⟩
structure Vt where
  v : Int
  h : Int
  bz : Bool
  blk : List Int
  who : Int
  tz : Bool
  tag : List Int
instance : Inhabited Vt := ⟨⟨0, 0, false, [], 0, false, []⟩⟩
def Vt.t (x : Vt) : T := .agg [.int .i64 x.v, .int .i64 x.h, .nums 5 .u8 x.bz x.blk, .int .i64 x.who, .nums 5 .u8 x.tz x.tag]
theorem Vt.c0 (x : Vt) : (x.t.cells.getD 0 .bad).toInt = x.v := rfl
theorem Vt.c1 (x : Vt) : (x.t.cells.getD 1 .bad).toInt = x.h := rfl
theorem Vt.c2 (x : Vt) : (x.t.cells.getD 2 .bad).toNums = x.blk := rfl
theorem Vt.c3 (x : Vt) : (x.t.cells.getD 3 .bad).toInt = x.who := rfl
def Vt.good (x : Vt) : Prop := goodI x.v ∧ goodI x.h ∧ By.good ⟨x.bz, x.blk⟩ ∧ goodI x.who ∧ By.good ⟨x.tz, x.tag⟩
def Vt.cp (x : Vt) : Vt := ⟨x.v, x.h, false, x.blk, x.who, false, x.tag⟩
structure En where
  who : Int
  high : Int
  tz : Bool
  tag : List Int
instance : Inhabited En := ⟨⟨0, 0, false, []⟩⟩
def En.t (x : En) : T := .agg [.int .i64 x.who, .int .i64 x.high, .nums 5 .u8 x.tz x.tag]
theorem En.c0 (x : En) : (x.t.cells.getD 0 .bad).toInt = x.who := rfl
theorem En.c1 (x : En) : (x.t.cells.getD 1 .bad).toInt = x.high := rfl
theorem En.c2 (x : En) : (x.t.cells.getD 2 .bad).toNums = x.tag := rfl
def En.good (x : En) : Prop := goodI x.who ∧ goodI x.high ∧ By.good ⟨x.tz, x.tag⟩
def En.cp (x : En) : En := ⟨x.who, x.high, false, x.tag⟩

structure Lm where
  l0 : Int
  l1 : Int
  l2 : Int
  l3 : Int
  l4 : Int
def Lm.good (x : Lm) : Prop := goodI x.l0 ∧ goodI x.l1 ∧ goodI x.l2 ∧ goodI x.l3 ∧ goodI x.l4
structure TcV where
  v : Int
  ez : Bool
  ents : List En
def TcV.good (x : TcV) : Prop := goodI x.v ∧ GoodL En.good x.ents
structure Ps where
  skip : Int
  z : Bool
  buf : List Int
def Ps.good (x : Ps) : Prop := goodI x.skip ∧ By.good ⟨x.z, x.buf⟩
def Light.good (x : Light) : Prop := Lm.good ⟨x.l0, x.l1, x.l2, x.l3, x.l4⟩ ∧ GoodL Row.good x.rows ∧ Ps.good ⟨x.skip, x.bz, x.buf⟩ ∧ GoodL Head.good x.chain
structure Fo where
  l0 : Int
  l1 : Int
  l2 : Int
  l3 : Int
  l4 : Int
  hz : Bool
  heads : List Head
def Fo.good (x : Fo) : Prop := Lm.good ⟨x.l0, x.l1, x.l2, x.l3, x.l4⟩ ∧ GoodL Head.good x.heads
structure Pf where
  hz : Bool
  heads : List Head
  q : QcV
def Pf.good (x : Pf) : Prop := GoodL Head.good x.heads ∧ x.q.good
end Go.Proofs.YtadnejogdohfkaaG
namespace Go.Proofs.YtadnejogdohfkaaG
open Go Go.Proofs.YtadnejogdohfkaaRv Go.RowKit
set_option linter.unusedVariables false
set_option linter.unusedSimpArgs false

theorem tdiv_nat (n m : Nat) : Int.tdiv (n : Int) (m : Int) = ((n / m : Nat) : Int) := by
  rw [Int.tdiv_eq_ediv_of_nonneg (by omega)]
  exact (Int.natCast_ediv n m).symm
theorem tmod_nat (n m : Nat) : Int.tmod (n : Int) (m : Int) = ((n % m : Nat) : Int) := by
  rw [Int.tmod_eq_emod_of_nonneg (by omega)]
  exact (Int.natCast_emod n m).symm
theorem w64n {n : Nat} (h : n ≤ 9223372036854775807) : wrap64 (n : Int) = (n : Int) := w64 (by omega) (by omega)

def bitAt (b : List Int) (i : Nat) : Bool := rdI b ((i / 8 : Nat) : Int) / 2 ^ (i % 8) % 2 == 1
theorem bitAt_out {b : List Int} {i : Nat} (h : 8 * b.length ≤ i) : bitAt b i = false := by
  have : b.length ≤ i / 8 := by omega
  have e : rdI b ((i / 8 : Nat) : Int) = 0 := by
    unfold rdI
    rw [toNat_nat, List.getD_eq_getElem?_getD, List.getElem?_eq_none this]
    rfl
  unfold bitAt
  rw [e]
  simp
theorem rd_nice {l : List Int} (h : niceB l) (i : Int) : 0 ≤ rdI l i ∧ rdI l i < 256 := by
  unfold rdI
  rw [List.getD_eq_getElem?_getD]
  cases e : l[i.toNat]? with
  | none => simp
  | some x => exact h.2 x (List.mem_of_getElem? e)
theorem u8_and1 {x : Int} (h0 : 0 ≤ x) (h1 : x < 256) : Go.bits .and .u8 x 1 = x % 2 := bits_mask .u8 8 (by decide) wraps_u8 1 (by decide) x h0 h1
theorem div_pow_bd {x : Int} (h0 : 0 ≤ x) (h1 : x < 256) (m : Nat) : 0 ≤ x / 2 ^ m ∧ x / 2 ^ m < 256 := by
  have hp : (0 : Int) < 2 ^ m := Int.pow_pos (by decide)
  refine ⟨Int.ediv_nonneg h0 (Int.le_of_lt hp), ?_⟩
  have := Int.ediv_le_self (2 ^ m) h0
  omega

def bitsFrom (b : List Int) : Nat → Nat → List Nat
  | _, 0 => []
  | i, m + 1 => if bitAt b i = true then i :: bitsFrom b (i + 1) m else bitsFrom b (i + 1) m

def bitsList (b : List Int) : List Int := (bitsFrom b 0 (8 * b.length)).map fun (n : Nat) => (n : Int)
theorem bitsFrom_bd (b : List Int) : ∀ (m i : Nat) (x : Nat), x ∈ bitsFrom b i m → i ≤ x ∧ x < i + m
  | 0, i, x, h => by simp [bitsFrom] at h
  | m + 1, i, x, h => by
    unfold bitsFrom at h
    split at h
    · rcases List.mem_cons.1 h with rfl | h
      · omega
      · have := bitsFrom_bd b m (i + 1) x h
        omega
    · have := bitsFrom_bd b m (i + 1) x h
      omega
theorem bitsFrom_mem (b : List Int) : ∀ (m i : Nat) (x : Nat), x ∈ bitsFrom b i m ↔ (i ≤ x ∧ x < i + m) ∧ bitAt b x = true
  | 0, i, x => by simp [bitsFrom]; omega
  | m + 1, i, x => by
    have ih := bitsFrom_mem b m (i + 1) x
    unfold bitsFrom
    split
    · rename_i h
      rw [List.mem_cons, ih]
      constructor
      · rintro (rfl | ⟨h1, h2⟩)
        · exact ⟨by omega, h⟩
        · exact ⟨by omega, h2⟩
      · rintro ⟨h1, h2⟩
        by_cases e : x = i
        · exact Or.inl e
        · exact Or.inr ⟨by omega, h2⟩
    · rename_i h
      rw [ih]
      constructor
      · rintro ⟨h1, h2⟩
        exact ⟨by omega, h2⟩
      · rintro ⟨h1, h2⟩
        have : x ≠ i := by rintro rfl; exact h h2
        exact ⟨by omega, h2⟩
theorem bitsFrom_length (b : List Int) : ∀ (m i : Nat), (bitsFrom b i m).length ≤ m
  | 0, i => by simp [bitsFrom]
  | m + 1, i => by
    have := bitsFrom_length b m (i + 1)
    unfold bitsFrom
    split
    · simp only [List.length_cons]; omega
    · omega
theorem bitsList_length (b : List Int) : (bitsList b).length ≤ 8 * b.length := by
  unfold bitsList
  rw [List.length_map]
  exact bitsFrom_length b _ _
theorem bitsList_bd {b : List Int} {x : Int} (h : x ∈ bitsList b) : ∃ n : Nat, x = n ∧ n < 8 * b.length ∧ bitAt b n = true := by
  unfold bitsList at h
  obtain ⟨n, hn, rfl⟩ := List.mem_map.1 h
  have := (bitsFrom_mem b _ _ n).1 hn
  exact ⟨n, rfl, by omega, this.2⟩
theorem mem_bitsList {b : List Int} (n : Nat) : (n : Int) ∈ bitsList b ↔ n < 8 * b.length ∧ bitAt b n = true := by
  unfold bitsList
  rw [List.mem_map]
  constructor
  · rintro ⟨m, hm, e⟩
    have := (bitsFrom_mem b _ _ m).1 hm
    have e' : m = n := by omega
    subst e'
    exact ⟨by omega, this.2⟩
  · rintro ⟨h1, h2⟩
    exact ⟨n, (bitsFrom_mem b _ _ n).2 ⟨by omega, h2⟩, rfl⟩
def bitsSize (n : Int) : Int := if n < 1 then 0 else (n - 1) / 8 + 1

def bitsOk (b : List Int) (n : Int) : Bool := decide (1 ≤ n ∧ n ≤ 10) && (decide ((b.length : Int) = bitsSize n) && (bitsList b).all fun i => decide (i < n))
theorem bitsOk_iff {b : List Int} {n : Int} : bitsOk b n = true ↔ (1 ≤ n ∧ n ≤ 10) ∧ (b.length : Int) = bitsSize n ∧ ∀ i ∈ bitsList b, i < n := by
  simp [bitsOk, and_assoc]
theorem bitsOk_len {b : List Int} {n : Int} (h : bitsOk b n = true) : b.length ≤ 2 := by
  obtain ⟨h1, h2, _⟩ := bitsOk_iff.1 h
  unfold bitsSize at h2
  split at h2 <;> omega
theorem bitsOk_bit {b : List Int} {n : Int} (h : bitsOk b n = true) {i : Nat} (hi : n ≤ i) : bitAt b i = false := by
  obtain ⟨h1, h2, h3⟩ := bitsOk_iff.1 h
  by_cases c : i < 8 * b.length
  · cases e : bitAt b i with
    | false => rfl
    | true =>
      have := h3 i ((mem_bitsList i).2 ⟨c, e⟩)
      omega
  · exact bitAt_out (by omega)

theorem bitsFrom_last (b : List Int) : ∀ (m i : Nat) (h : bitsFrom b i m ≠ []), ∀ x ∈ bitsFrom b i m, x ≤ (bitsFrom b i m).getLast h
  | 0, i, h, x, hx => by simp [bitsFrom] at hx
  | m + 1, i, h, x, hx => by
    by_cases c : bitAt b i = true
    · have e : bitsFrom b i (m + 1) = i :: bitsFrom b (i + 1) m := by rw [bitsFrom, if_pos c]
      by_cases n : bitsFrom b (i + 1) m = []
      · have : bitsFrom b i (m + 1) = [i] := by rw [e, n]
        simp only [this, List.mem_singleton] at hx
        simp only [this, List.getLast_singleton]
        omega
      · have l : (bitsFrom b i (m + 1)).getLast h = (bitsFrom b (i + 1) m).getLast n := by simp only [e, List.getLast_cons n]
        rw [l]
        rw [e] at hx
        rcases List.mem_cons.1 hx with rfl | hx
        · have := bitsFrom_bd b m (x + 1) _ (List.getLast_mem n)
          omega
        · exact bitsFrom_last b m (i + 1) n x hx
    · have e : bitsFrom b i (m + 1) = bitsFrom b (i + 1) m := by rw [bitsFrom, if_neg c]
      have n : bitsFrom b (i + 1) m ≠ [] := by rw [← e]; exact h
      have l : (bitsFrom b i (m + 1)).getLast h = (bitsFrom b (i + 1) m).getLast n := by simp only [e]
      rw [l]
      rw [e] at hx
      exact bitsFrom_last b m (i + 1) n x hx
theorem bitsList_last (b : List Int) (h : bitsList b ≠ []) : ∀ x ∈ bitsList b, x ≤ (bitsList b).getLast h := by
  intro x hx
  have h' : bitsFrom b 0 (8 * b.length) ≠ [] := by intro e; apply h; simp [bitsList, e]
  have l : (bitsList b).getLast h = (((bitsFrom b 0 (8 * b.length)).getLast h' : Nat) : Int) := by simp only [bitsList, List.getLast_map]
  unfold bitsList at hx
  obtain ⟨n, hn, rfl⟩ := List.mem_map.1 hx
  have := bitsFrom_last b _ _ h' n hn
  rw [l]
  omega
theorem all_lt_last (b : List Int) (n : Int) : ((bitsList b).all fun i => decide (i < n)) = (if h : bitsList b = [] then true else decide ((bitsList b).getLast h < n)) := by
  split
  · rename_i h
    rw [h]
    rfl
  · rename_i h
    rw [Bool.eq_iff_iff, List.all_eq_true]
    simp only [decide_eq_true_eq]
    exact ⟨fun g => g _ (List.getLast_mem h), fun g x hx => by have := bitsList_last b h x hx; omega⟩

theorem bits_u8_bd (op : BinOp) (x y : Int) : 0 ≤ Go.bits op .u8 x y ∧ Go.bits op .u8 x y < 256 := by
  unfold Go.bits
  rw [IntKind.wrap_u8]
  omega
theorem ofInt_nice {x : Int} (h0 : 0 ≤ x) (h1 : x < 256) : (BitVec.ofInt 8 x).toNat = x.toNat := by
  rw [BitVec.toNat_ofInt]
  have : x % ((2 ^ 8 : Nat) : Int) = x := Int.emod_eq_of_lt h0 (by omega)
  rw [this]
def bitOp : BinOp → Bool → Bool → Bool
  | .and, p, q => p && q
  | .or, p, q => p || q
  | .xor, p, q => p ^^ q
  | _, p, q => p && !q
theorem bits_test {op : BinOp} {x y : Int} (hx : 0 ≤ x ∧ x < 256) (hy : 0 ≤ y ∧ y < 256) {m : Nat} (hm : m < 8) : (Go.bits op .u8 x y).toNat.testBit m = bitOp op (x.toNat.testBit m) (y.toNat.testBit m) := by
  have e : ∀ v : BitVec 8, (IntKind.u8.wrap (v.toNat : Int)).toNat = v.toNat := by
    intro v
    have := v.isLt
    rw [IntKind.wrap_u8]
    omega
  have ex : x.toNat.testBit m = (BitVec.ofInt 8 x).getLsbD m := by rw [← ofInt_nice hx.1 hx.2]; rfl
  have ey : y.toNat.testBit m = (BitVec.ofInt 8 y).getLsbD m := by rw [← ofInt_nice hy.1 hy.2]; rfl
  rw [ex, ey]
  unfold Go.bits
  show ((IntKind.u8.wrap ((match op with | .and => BitVec.ofInt 8 x &&& BitVec.ofInt 8 y | .or => BitVec.ofInt 8 x ||| BitVec.ofInt 8 y | .xor => BitVec.ofInt 8 x ^^^ BitVec.ofInt 8 y | _ => BitVec.ofInt 8 x &&& ~~~(BitVec.ofInt 8 y)).toNat : Int)).toNat).testBit m = _
  rw [e, BitVec.testBit_toNat]
  cases op <;> simp [bitOp, hm]
theorem bitAt_test {b : List Int} (h : niceB b) (i : Nat) : bitAt b i = (rdI b ((i / 8 : Nat) : Int)).toNat.testBit (i % 8) := by
  have q := rd_nice h ((i / 8 : Nat) : Int)
  unfold bitAt
  rw [Nat.testBit_eq_decide_div_mod_eq]
  obtain ⟨n, hn⟩ := Int.eq_ofNat_of_zero_le q.1
  rw [hn]
  have : ((n : Int) / 2 ^ (i % 8)) % 2 = ((n / 2 ^ (i % 8) % 2 : Nat) : Int) := by
    rw [Int.natCast_emod, Int.natCast_ediv, Int.natCast_pow]
    rfl
  rw [this, toNat_nat]
  by_cases c : n / 2 ^ (i % 8) % 2 = 1
  · rw [c]; rfl
  · rw [decide_eq_false c]
    have : n / 2 ^ (i % 8) % 2 = 0 := by omega
    rw [this]; rfl
theorem shl1 {m : Nat} (h : m < 8) : shlI .u8 1 (m : Int) = 2 ^ m := by
  match m, h with
  | 0, _ => rfl
  | 1, _ => rfl
  | 2, _ => rfl
  | 3, _ => rfl
  | 4, _ => rfl
  | 5, _ => rfl
  | 6, _ => rfl
  | 7, _ => rfl
theorem pow_test {m j : Nat} (h : m < 8) : ((2 : Int) ^ m).toNat.testBit j = decide (j = m) := by
  have : ((2 : Int) ^ m).toNat = 2 ^ m := by
    have : (2 : Int) ^ m = ((2 ^ m : Nat) : Int) := by rw [Int.natCast_pow]; rfl
    rw [this, toNat_nat]
  rw [this, Nat.testBit_two_pow]
  by_cases c : m = j
  · simp [c]
  · rw [decide_eq_false c, decide_eq_false (fun h => c h.symm)]
theorem pow_bd {m : Nat} (h : m < 8) : (0 : Int) ≤ 2 ^ m ∧ (2 : Int) ^ m < 256 := by
  match m, h with
  | 0, _ => decide
  | 1, _ => decide
  | 2, _ => decide
  | 3, _ => decide
  | 4, _ => decide
  | 5, _ => decide
  | 6, _ => decide
  | 7, _ => decide

def bitSet (op : BinOp) (b : List Int) (i : Nat) : List Int := b.set (i / 8) (Go.bits op .u8 (rdI b ((i / 8 : Nat) : Int)) (2 ^ (i % 8)))
theorem bitSet_nice {op : BinOp} {b : List Int} (h : niceB b) (i : Nat) : niceB (bitSet op b i) := by
  unfold bitSet
  refine ⟨by rw [List.length_set]; exact h.1, fun x hx => ?_⟩
  rcases List.mem_or_eq_of_mem_set hx with hx | rfl
  · exact h.2 x hx
  · exact bits_u8_bd _ _ _
theorem bitSet_length (op : BinOp) (b : List Int) (i : Nat) : (bitSet op b i).length = b.length := by simp [bitSet]
theorem bitSet_bit {op : BinOp} {b : List Int} (h : niceB b) {i : Nat} (hi : i < 8 * b.length) (hop : ∀ p, bitOp op p false = p) (j : Nat) : bitAt (bitSet op b i) j = if j = i then bitOp op (bitAt b j) true else bitAt b j := by
  have hk : i / 8 < b.length := by omega
  rw [bitAt_test (bitSet_nice h i), bitAt_test h]
  by_cases c : j / 8 = i / 8
  · have e : rdI (bitSet op b i) ((j / 8 : Nat) : Int) = Go.bits op .u8 (rdI b ((i / 8 : Nat) : Int)) (2 ^ (i % 8)) := by
      rw [c, rd_nat (by rw [bitSet_length]; exact hk)]
      simp [bitSet]
    rw [e, bits_test (rd_nice h _) (pow_bd (by omega)) (by omega), pow_test (by omega), c]
    by_cases d : j = i
    · subst d; simp
    · rw [if_neg d, decide_eq_false (by omega), hop]
  · have e : rdI (bitSet op b i) ((j / 8 : Nat) : Int) = rdI b ((j / 8 : Nat) : Int) := by
      unfold rdI bitSet
      rw [List.getD_eq_getElem?_getD, List.getD_eq_getElem?_getD, toNat_nat, List.getElem?_set_ne (fun x => c x.symm)]
    rw [e, if_neg (by rintro rfl; exact c rfl)]


theorem bitAt_zero (m j : Nat) : bitAt (List.replicate m 0) j = false := by
  have e : rdI (List.replicate m 0) ((j / 8 : Nat) : Int) = 0 := by
    unfold rdI
    rw [toNat_nat, List.getD_eq_getElem?_getD, List.getElem?_replicate]
    split <;> rfl
  unfold bitAt
  rw [e]
  simp
theorem bitsOk_of {b : List Int} {n : Nat} (h1 : 1 ≤ n) (h2 : n ≤ 10) (hl : (b.length : Int) = bitsSize (n : Int)) (h : ∀ j, bitAt b j = true → j < n) : bitsOk b (n : Int) = true := by
  refine bitsOk_iff.2 ⟨by omega, hl, fun i hi => ?_⟩
  obtain ⟨m, rfl, _, hm⟩ := bitsList_bd hi
  have := h m hm
  omega
theorem bitsOk_lt {b : List Int} {n : Nat} (h : bitsOk b (n : Int) = true) {j : Nat} (hj : bitAt b j = true) : j < n := by
  by_cases c : j < n
  · exact c
  · rw [bitsOk_bit h (by omega)] at hj
    cases hj
theorem sorted_ext : ∀ {a b : List Nat}, a.Pairwise (· < ·) → b.Pairwise (· < ·) → (∀ x, x ∈ a ↔ x ∈ b) → a = b
  | [], [], _, _, _ => rfl
  | [], y :: b, _, _, h => by have := (h y).2 (by simp); simp at this
  | x :: a, [], _, _, h => by have := (h x).1 (by simp); simp at this
  | x :: a, y :: b, ha, hb, h => by
    rw [List.pairwise_cons] at ha hb
    have e : x = y := by
      rcases List.mem_cons.1 ((h x).1 (by simp)) with e | e
      · exact e
      · rcases List.mem_cons.1 ((h y).2 (by simp)) with e' | e'
        · exact e'.symm
        · have h1 := hb.1 x e
          have h2 := ha.1 y e'
          omega
    subst e
    congr 1
    refine sorted_ext ha.2 hb.2 (fun z => ⟨fun hz => ?_, fun hz => ?_⟩)
    · have h1 := ha.1 z hz
      rcases List.mem_cons.1 ((h z).1 (by simp [hz])) with e | e
      · omega
      · exact e
    · have h1 := hb.1 z hz
      rcases List.mem_cons.1 ((h z).2 (by simp [hz])) with e | e
      · omega
      · exact e
theorem bitsFrom_sorted (b : List Int) : ∀ (m i : Nat), (bitsFrom b i m).Pairwise (· < ·)
  | 0, i => List.Pairwise.nil
  | m + 1, i => by
    unfold bitsFrom
    split
    · rw [List.pairwise_cons]
      exact ⟨fun x hx => by have := bitsFrom_bd b m (i + 1) x hx; omega, bitsFrom_sorted b m (i + 1)⟩
    · exact bitsFrom_sorted b m (i + 1)
def setAll (b : List Int) (own : List Nat) : List Int := own.foldl (fun b i => bitSet .or b i) b
theorem setAll_spec : ∀ (own : List Nat) (b : List Int), niceB b → (∀ i ∈ own, i < 8 * b.length) → niceB (setAll b own) ∧ (setAll b own).length = b.length ∧ ∀ j, bitAt (setAll b own) j = (bitAt b j || decide (j ∈ own))
  | [], b, hb, _ => ⟨hb, rfl, fun j => by simp [setAll]⟩
  | i :: t, b, hb, h => by
    have hi := h i (by simp)
    obtain ⟨h1, h2, h3⟩ := setAll_spec t (bitSet .or b i) (bitSet_nice hb i) (fun x hx => by rw [bitSet_length]; exact h x (by simp [hx]))
    refine ⟨h1, by rw [← bitSet_length .or b i]; exact h2, fun j => ?_⟩
    have e : setAll b (i :: t) = setAll (bitSet .or b i) t := rfl
    rw [e, h3, bitSet_bit hb hi (by intro p; simp [bitOp])]
    by_cases c : j = i
    · subst c; simp [bitOp]
    · simp [c]
def bitsOf (n : Nat) (own : List Nat) : List Int := setAll (List.replicate (bitsSize (n : Int)).toNat 0) own
theorem bitsSize_bd {n : Nat} (h1 : 1 ≤ n) (h2 : n ≤ 10) : 1 ≤ bitsSize (n : Int) ∧ bitsSize (n : Int) ≤ 2 ∧ (n : Int) ≤ 8 * bitsSize (n : Int) := by
  unfold bitsSize
  rw [if_neg (by omega)]
  omega
theorem zeros_nice (m : Nat) (h : m ≤ 1048576) : niceB (List.replicate m 0) := ⟨by rw [List.length_replicate]; exact h, fun x hx => by rw [List.eq_of_mem_replicate hx]; omega⟩
theorem bitsOf_spec {n : Nat} (h1 : 1 ≤ n) (h2 : n ≤ 10) {own : List Nat} (h : ∀ i ∈ own, i < n) : niceB (bitsOf n own) ∧ ((bitsOf n own).length : Int) = bitsSize (n : Int) ∧ bitsOk (bitsOf n own) (n : Int) = true ∧ ∀ j, bitAt (bitsOf n own) j = decide (j ∈ own) := by
  have z := bitsSize_bd h1 h2
  obtain ⟨q1, q2, q3⟩ := setAll_spec own (List.replicate (bitsSize (n : Int)).toNat 0) (zeros_nice _ (by omega)) (fun i hi => by have := h i hi; rw [List.length_replicate]; omega)
  rw [List.length_replicate] at q2
  have q4 : ∀ j, bitAt (bitsOf n own) j = decide (j ∈ own) := fun j => by
    show bitAt (setAll _ own) j = _
    rw [q3, bitAt_zero, Bool.false_or]
  refine ⟨q1, by unfold bitsOf; omega, bitsOk_of h1 h2 (by unfold bitsOf; omega) (fun j hj => ?_), q4⟩
  rw [q4] at hj
  exact h j (of_decide_eq_true hj)
theorem bitsFrom_of {n : Nat} (h1 : 1 ≤ n) (h2 : n ≤ 10) {own : List Nat} (h : ∀ i ∈ own, i < n) (hs : own.Pairwise (· < ·)) : bitsFrom (bitsOf n own) 0 (8 * (bitsOf n own).length) = own := by
  have z := bitsSize_bd h1 h2
  obtain ⟨_, q2, _, q4⟩ := bitsOf_spec h1 h2 h
  refine sorted_ext (bitsFrom_sorted _ _ _) hs (fun x => ?_)
  rw [bitsFrom_mem, q4]
  constructor
  · rintro ⟨_, e⟩
    exact of_decide_eq_true e
  · intro hx
    have := h x hx
    exact ⟨⟨by omega, by omega⟩, decide_eq_true hx⟩

def total : List Row → Int
  | [] => 0
  | r :: t => r.f0 + total t

def wsum (b : List Int) : Nat → List Row → Int
  | _, [] => 0
  | i, r :: t => (if bitAt b i = true then r.f0 else 0) + wsum b (i + 1) t
def totalOf (l : List Row) : Int := if tabOk l = true then total l else 0
def weightOf (l : List Row) (b : List Int) : Int := if tabOk l = true ∧ bitsOk b (l.length : Int) = true then wsum b 0 l else 0
theorem total_bd {l : List Row} (h : ∀ r ∈ l, 1 ≤ r.f0 ∧ r.f0 ≤ 1099511627776) : 0 ≤ total l ∧ total l ≤ l.length * 1099511627776 := by
  induction l with
  | nil => simp [total]
  | cons r t ih =>
    have h0 := h r (by simp)
    have := ih (fun x hx => h x (by simp [hx]))
    simp only [total, List.length_cons]
    omega
theorem wsum_bd {b : List Int} {l : List Row} (h : ∀ r ∈ l, 1 ≤ r.f0 ∧ r.f0 ≤ 1099511627776) : ∀ i, 0 ≤ wsum b i l ∧ wsum b i l ≤ total l := by
  induction l with
  | nil => intro i; simp [wsum, total]
  | cons r t ih =>
    intro i
    have h0 := h r (by simp)
    have := ih (fun x hx => h x (by simp [hx])) (i + 1)
    simp only [total, wsum]
    split <;> omega

def isum (l : List Row) : List Nat → Int
  | [] => 0
  | i :: t => (l.getD i default).f0 + isum l t
theorem isum_bits (b : List Int) (l : List Row) : ∀ (m i : Nat), (∀ j, l.length ≤ j → bitAt b j = false) → l.length ≤ i + m → isum l (bitsFrom b i m) = wsum b i (l.drop i)
  | 0, i, h, hm => by rw [List.drop_of_length_le (by omega)]; rfl
  | m + 1, i, h, hm => by
    have ih := isum_bits b l m (i + 1) h (by omega)
    by_cases c : i < l.length
    · rw [List.drop_eq_getElem_cons c]
      unfold bitsFrom wsum
      split
      · simp [isum, ih, c]
      · simp [ih]
    · have z := h i (by omega)
      unfold bitsFrom
      rw [List.drop_of_length_le (by omega)] at ih ⊢
      rw [if_neg (by rw [z]; simp), ih]
      rfl
theorem totalOf_bd (l : List Row) : 0 ≤ totalOf l ∧ totalOf l ≤ 10995116277760 := by
  unfold totalOf
  split
  · rename_i h
    obtain ⟨h1, _, h2⟩ := tabOk_iff.1 h
    have := total_bd (fun r hr => (h1 r hr).1)
    omega
  · omega
theorem weightOf_bd (l : List Row) (b : List Int) : 0 ≤ weightOf l b ∧ weightOf l b ≤ totalOf l := by
  have := totalOf_bd l
  unfold weightOf
  split
  · rename_i h
    obtain ⟨h1, _, h2⟩ := tabOk_iff.1 h.1
    have := wsum_bd (b := b) (fun r hr => (h1 r hr).1) 0
    unfold totalOf
    rw [if_pos h.1]
    exact this
  · omega
def isQuorum (l : List Row) (b : List Int) : Bool := tabOk l && decide (3 * weightOf l b > 2 * totalOf l)
theorem wsum_full {b : List Int} (l : List Row) : ∀ i, (∀ j, j < i + l.length → bitAt b j = true) → wsum b i l = total l := by
  induction l with
  | nil => intro i _; rfl
  | cons r t ih =>
    intro i h
    have := ih (i + 1) (fun j hj => h j (by simp only [List.length_cons]; omega))
    simp only [wsum, total]
    rw [if_pos (h i (by simp only [List.length_cons]; omega)), this]
end Go.Proofs.YtadnejogdohfkaaG
namespace Go.Proofs.YtadnejogdohfkaaG
open Go Go.Proofs.YtadnejogdohfkaaRv Go.RowKit
set_option linter.unusedVariables false
set_option linter.unusedSimpArgs false


def okM (a : Int) : Prop := 0 ≤ a ∧ a ≤ 4611686018427387904
theorem mk8_rd {L : Nat} {a : Int} {i : Nat} (h : i < L) : rdI (mk8 L a) (i : Int) = (a + i) % 256 := mk8_get h
theorem wmk (a : Int) (h : okM a) (n : Nat) (hn : n ≤ 1099511627776) : wrap64 (a + (n : Int) + 1) = a + ((n + 1 : Nat) : Int) := by
  obtain ⟨h0, h1⟩ := h
  unfold wrap64; omega
theorem laws_markByteS.ev (z : Bool) (l : List Int) (h : okB l) (a : Int) (ha : okM a) : Ev (fun k => laws_markByteS.f k z l a) (a + l.length, z, mk8 l.length a) := by
  have hl : l.length ≤ 1048576 := h
  refine ev_step ?_
  simp only [laws_markByteS.f, laws_markByteS.b]
  have key : ∀ (d n : Nat) (ys : List Int), n + d = l.length → ys.length = l.length → ys.take n = (mk8 l.length a).take n → Ev (fun k => laws_markByteS.l0 k z ys (a + (n : Int)) (n : Int)) (a + l.length, z, mk8 l.length a) := by
    intro d
    induction d with
    | zero =>
      intro n ys hn hy ht
      refine ev_step ?_
      simp only [laws_markByteS.l0, laws_markByteS.l0b]
      refine ev_neg (by omega) (ev_some ?_)
      obtain rfl : n = l.length := by omega
      have e1 : (mk8 l.length a).take l.length = mk8 l.length a := List.take_of_length_le (by rw [mk8_length]; omega)
      rw [← hy, List.take_length, hy, e1] at ht
      rw [ht]
    | succ d ih =>
      intro n ys hn hy ht
      have hlt : n < l.length := by omega
      have hm : n < (mk8 l.length a).length := by rw [mk8_length]; exact hlt
      have i2 := ih (n + 1) (ys.set n ((a + (n : Int)) % 256)) (by omega) (by simp [hy]) (by
        rw [List.take_succ_eq_append_getElem (by simp; omega), List.take_succ_eq_append_getElem hm, List.take_set_of_le (Nat.le_refl n), ht, List.getElem_set_self]
        simp [mk8])
      refine ev_step ?_
      simp only [laws_markByteS.l0, laws_markByteS.l0b, Int.toNat_natCast, succ_nat n (by omega), wmk a ha n (by omega)]
      exact ev_pos (by omega) (ev_pos (by omega) (ev_pos (by omega) i2))
  have := key l.length 0 l (by omega) rfl (by simp)
  simpa using this
theorem laws_heldByteS.ev (z : Bool) (L : Nat) (h : L ≤ 1048576) (a : Int) (ha : okM a) : Ev (fun k => laws_heldByteS.f k z (mk8 L a) a) (a + L) := by
  refine ev_step ?_
  simp only [laws_heldByteS.f, laws_heldByteS.b]
  have key : ∀ (d n : Nat), n + d = L → Ev (fun k => laws_heldByteS.l0 k z (mk8 L a) (a + (n : Int)) (n : Int)) (a + L) := by
    intro d
    induction d with
    | zero =>
      intro n hn
      refine ev_step ?_
      simp only [laws_heldByteS.l0, laws_heldByteS.l0b, mk8_length]
      refine ev_neg (by omega) (ev_some ?_)
      obtain rfl : n = L := by omega
      rfl
    | succ d ih =>
      intro n hn
      have hlt : n < L := by omega
      refine ev_step ?_
      simp only [laws_heldByteS.l0, laws_heldByteS.l0b, mk8_length, mk8_rd hlt, succ_nat n (by omega), wmk a ha n (by omega)]
      exact ev_pos (by omega) (ev_pos (by omega) (ev_pos (by omega) (ev_neg (by simp) (ih (n + 1) (by omega)))))
  have := key L 0 (by omega)
  simpa using this


def CntR {α : Type} (a : Int) (m : Nat) (g : Nat → Option (Int × α)) : Prop := ∃ p, Ev g p ∧ a ≤ p.1 ∧ p.1 ≤ a + m
theorem getD_self {α : Type} {l : List α} {n : Nat} {d v : α} (h : n < l.length) : (l.set n v).getD n d = v := by simp [List.getD_eq_getElem?_getD, h]
theorem drop_set_lt {α : Type} {l : List α} {n m : Nat} {v : α} (h : n < m) : (l.set n v).drop m = l.drop m := List.drop_set_of_lt h
theorem getD_of_drop {α β : Type} {f : α → β} {ys : List β} {l : List α} {n : Nat} {d : β} (h : ys.drop n = (l.map f).drop n) (hn : n < l.length) : ys.getD n d = f l[n] := by
  have := congrArg (fun q => q[0]?) h
  simp only [List.getElem?_drop, Nat.add_zero] at this
  rw [List.getD_eq_getElem?_getD, this]
  simp [hn]
theorem laws_markRowS.ev (z : Bool) (l : List Row) (h : Few l) (a : Int) (h0 : 0 ≤ a) (h1 : a ≤ 1099511627776) : CntR a 1099512676352 (fun k => laws_markRowS.f k z (l.map Row.t) a) := by
  have hl : l.length ≤ 1048576 := h.1
  have key : ∀ (d n : Nat) (ys : List T) (c : Int), n + d = l.length → ys.length = l.length → ys.drop n = (l.map Row.t).drop n → a ≤ c → c ≤ a + ((n * 1048577 : Nat) : Int) → CntR c (d * 1048577) (fun k => laws_markRowS.l0 k z ys c (n : Int)) := by
    intro d
    induction d with
    | zero =>
      intro n ys c hn hy ht hc hc2
      refine ⟨(c, z, ys), ev_step ?_, Int.le_refl _, by simp⟩
      simp only [laws_markRowS.l0, laws_markRowS.l0b]
      exact ev_neg (by omega) (ev_some rfl)
    | succ d ih =>
      intro n ys c hn hy ht hc hc2
      have hlt : n < l.length := by omega
      have hg := getD_of_drop (d := T.bad) ht hlt
      have hb := h.2 _ (List.getElem_mem hlt)
      have hb' : (l[n]).f1.length ≤ 1048576 := hb
      have M := laws_markByteS.ev (l[n]).z (l[n]).f1 hb (c + 1) ⟨by omega, by omega⟩
      have ht' : ys.drop (n + 1) = (l.map Row.t).drop (n + 1) := by
        have := congrArg (List.drop 1) ht
        simpa [List.drop_drop] using this
      obtain ⟨p, e, p1, p2⟩ := ih (n + 1) ((ys.set n (.agg [.int .i64 c, .nums 5 .u8 (l[n]).z (l[n]).f1])).set n (.agg [.int .i64 c, .nums 5 .u8 (l[n]).z (mk8 (l[n]).f1.length (c + 1))])) (c + 1 + ((l[n]).f1.length : Int)) (by omega) (by simp [hy]) (by rw [drop_set_lt (by omega), drop_set_lt (by omega), ht']) (by omega) (by omega)
      refine ⟨p, ev_step ?_, by omega, by omega⟩
      have ew : wrap64 (c + 1) = c + 1 := w64 (by omega) (by omega)
      simp only [laws_markRowS.l0, laws_markRowS.l0b, Int.toNat_natCast, succ_nat n (by omega), hg, Row.c1, Row.c1z, ew, getD_self (show n < ys.length by omega), List.length_set]
      exact ev_pos (by omega) (ev_pos (by omega) (ev_pos (by omega) (ev_pos (by omega) (ev_pos (by omega) (Ev.bind M e)))))
  obtain ⟨p, e, p1, p2⟩ := key l.length 0 (l.map Row.t) a (by omega) (by simp) rfl (Int.le_refl _) (by omega)
  refine ⟨p, ev_step ?_, p1, ?_⟩
  · simp only [laws_markRowS.f, laws_markRowS.b]
    exact e
  · have : l.length * 1048577 ≤ 1048576 * 1048577 := Nat.mul_le_mul_right _ hl
    omega
theorem laws_markTable.ev (z : Bool) (l : List Row) (h : Few l) (a : Int) (h0 : 0 ≤ a) (h1 : a ≤ 1099511627776) : CntR a 1099512676352 (fun k => laws_markTable.f k z (l.map Row.t) a) := by
  obtain ⟨p, e, p1, p2⟩ := laws_markRowS.ev z l h a h0 h1
  refine ⟨(p.1, p.2.1, p.2.2), ev_step ?_, p1, p2⟩
  simp only [laws_markTable.f, laws_markTable.b]
  exact Ev.bind e (ev_some rfl)



end Go.Proofs.YtadnejogdohfkaaG
namespace Go.Proofs.YtadnejogdohfkaaG
open Go Go.Proofs.YtadnejogdohfkaaRv Go.RowKit
set_option linter.unusedVariables false
set_option linter.unusedSimpArgs false

theorem spec_BitsSize.ev (n : Int) (h : i64r n) : Ev (fun k => spec_BitsSize.f k n) (bitsSize n) := by
  have h' : -9223372036854775808 ≤ n ∧ n ≤ 9223372036854775807 := h
  refine ev_step ?_
  simp only [spec_BitsSize.f, spec_BitsSize.b]
  unfold bitsSize
  refine ev_ite (fun c => ev_some (by rw [if_pos c])) fun c => ev_some ?_
  rw [if_neg c, w64 (n := n - 1) (by omega) (by omega), Int.tdiv_eq_ediv_of_nonneg (by omega), w64 (n := (n - 1) / 8) (by omega) (by omega), w64 (by omega) (by omega)]
theorem impl_BitsSize.ev (n : Int) (h : i64r n) : Ev (fun k => impl_BitsSize.f k n) (bitsSize n) := by
  have h' : -9223372036854775808 ≤ n ∧ n ≤ 9223372036854775807 := h
  refine ev_step ?_
  simp only [impl_BitsSize.f, impl_BitsSize.b]
  unfold bitsSize
  refine ev_ite (fun c => ev_some (by rw [if_pos c])) fun c => ev_some ?_
  rw [if_neg c, w64 (n := n - 1) (by omega) (by omega), Int.tdiv_eq_ediv_of_nonneg (by omega), w64 (n := (n - 1) / 8) (by omega) (by omega), w64 (by omega) (by omega)]
theorem impl_BitsHas.ev (z : Bool) (b : List Int) (h : niceB b) (i : Nat) (hi : i ≤ 4611686018427387904) : Ev (fun k => impl_BitsHas.f k z b (i : Int)) (bitAt b i) := by
  have hl := h.1
  have e8 : Int.tdiv (i : Int) 8 = ((i / 8 : Nat) : Int) := tdiv_nat i 8
  have m8 : Int.tmod (i : Int) 8 = ((i % 8 : Nat) : Int) := tmod_nat i 8
  refine ev_step ?_
  simp only [impl_BitsHas.f, impl_BitsHas.b]
  rw [w64 (n := 8 * (b.length : Int)) (by omega) (by omega), w64 (n := 8 * (b.length : Int) - 1) (by omega) (by omega), e8, m8, w64n (by omega)]
  refine Ev.bind (impl_within.ev _ _ _) (ev_ite (fun c => ?_) fun c => ?_)
  · have c' : (0 : Int) ≤ (i : Int) ∧ (i : Int) ≤ 8 * (b.length : Int) - 1 := by simpa using c
    refine ev_pos (by omega) (ev_pos (by omega) (ev_pos (by omega) (ev_some ?_)))
    have q := rd_nice h ((i / 8 : Nat) : Int)
    have e : shrI .u8 (rdI b ((i / 8 : Nat) : Int)) ((i % 8 : Nat) : Int) = rdI b ((i / 8 : Nat) : Int) / 2 ^ (i % 8) := by
      unfold shrI
      rw [toNat_nat, Nat.min_eq_left (by show i % 8 ≤ 8; omega)]
    have d := div_pow_bd q.1 q.2 (i % 8)
    rw [e, u8_and1 d.1 d.2]
    unfold bitAt
    rw [Bool.eq_iff_iff]; simp
  · have c' : ¬ ((0 : Int) ≤ (i : Int) ∧ (i : Int) ≤ 8 * (b.length : Int) - 1) := by simpa using c
    exact ev_some (bitAt_out (by omega)).symm
theorem spec_BitsHas.ev (z : Bool) (b : List Int) (h : niceB b) (i : Nat) (hi : i ≤ 4611686018427387904) : Ev (fun k => spec_BitsHas.f k z b (i : Int)) (bitAt b i) := by
  have hl := h.1
  have e8 : Int.tdiv (i : Int) 8 = ((i / 8 : Nat) : Int) := tdiv_nat i 8
  have m8 : Int.tmod (i : Int) 8 = ((i % 8 : Nat) : Int) := tmod_nat i 8
  have q := rd_nice h ((i / 8 : Nat) : Int)
  refine ev_step ?_
  simp only [spec_BitsHas.f, spec_BitsHas.b]
  rw [e8, m8, w64n (by omega), w64 (n := rdI b _) (by omega) (by omega)]
  refine ev_pos (by omega) (ev_ite (fun c => ?_) fun c => ev_some (bitAt_out (by omega)).symm)
  refine ev_pos (by omega) (ev_pos (by omega) (ev_pos (by omega) (ev_some ?_)))
  have e : shrI .i64 (rdI b ((i / 8 : Nat) : Int)) ((i % 8 : Nat) : Int) = rdI b ((i / 8 : Nat) : Int) / 2 ^ (i % 8) := by
    unfold shrI
    rw [toNat_nat, Nat.min_eq_left (by show i % 8 ≤ 64; omega)]
  have d := div_pow_bd q.1 q.2 (i % 8)
  rw [e, Int.tmod_eq_emod_of_nonneg d.1]
  unfold bitAt
  rw [Bool.eq_iff_iff]; simp
theorem impl_BitsList.ev0 (z : Bool) (b : List Int) (h : niceB b) : ∀ (d n : Nat) (acc : List Int), n + d = 8 * b.length → acc.length ≤ n → Ev (fun k => impl_BitsList.l0 k z b acc ((8 * b.length : Nat) : Int) (n : Int)) (false, acc ++ (bitsFrom b n d).map fun (n : Nat) => (n : Int))
  | 0, n, acc, hn, ha => by
    refine ev_step ?_
    simp only [impl_BitsList.l0, impl_BitsList.l0b]
    exact ev_neg (by omega) (ev_some (by simp [bitsFrom]))
  | d + 1, n, acc, hn, ha => by
    have hl := h.1
    refine ev_step ?_
    simp only [impl_BitsList.l0, impl_BitsList.l0b]
    refine ev_pos (by omega) (Ev.bind (impl_BitsHas.ev z b h n (by omega)) ?_)
    rw [w64s (by omega)]
    unfold bitsFrom
    refine ev_ite (fun c => ?_) (fun c => ?_)
    · rw [if_pos c]
      refine ev_pos (by omega) (ev_to (impl_BitsList.ev0 z b h d (n + 1) _ (by omega) (by simp; omega)) ?_)
      simp
    · rw [if_neg c]
      exact impl_BitsList.ev0 z b h d (n + 1) acc (by omega) (by omega)
theorem impl_BitsList.ev (z : Bool) (b : List Int) (h : niceB b) : Ev (fun k => impl_BitsList.f k z b) (false, bitsList b) := by
  have hl := h.1
  refine ev_step ?_
  simp only [impl_BitsList.f, impl_BitsList.b]
  rw [w64 (by omega) (by omega)]
  exact ev_to (impl_BitsList.ev0 z b h (8 * b.length) 0 [] (by omega) (by simp)) (by simp [bitsList])
theorem spec_BitsList.ev0 (z : Bool) (b : List Int) (h : niceB b) : ∀ (d n : Nat) (acc : List Int), n + d = 8 * b.length → acc.length ≤ n → Ev (fun k => spec_BitsList.l0 k z b acc (n : Int)) (false, acc ++ (bitsFrom b n d).map fun (n : Nat) => (n : Int))
  | 0, n, acc, hn, ha => by
    have hl := h.1
    refine ev_step ?_
    simp only [spec_BitsList.l0, spec_BitsList.l0b]
    rw [w64 (n := 8 * (b.length : Int)) (by omega) (by omega)]
    exact ev_neg (by omega) (ev_some (by simp [bitsFrom]))
  | d + 1, n, acc, hn, ha => by
    have hl := h.1
    refine ev_step ?_
    simp only [spec_BitsList.l0, spec_BitsList.l0b]
    rw [w64 (n := 8 * (b.length : Int)) (by omega) (by omega)]
    refine ev_pos (by omega) (Ev.bind (spec_BitsHas.ev z b h n (by omega)) ?_)
    rw [w64s (by omega)]
    unfold bitsFrom
    refine ev_ite (fun c => ?_) (fun c => ?_)
    · rw [if_pos c]
      refine ev_pos (by omega) (ev_to (spec_BitsList.ev0 z b h d (n + 1) _ (by omega) (by simp; omega)) ?_)
      simp
    · rw [if_neg c]
      exact spec_BitsList.ev0 z b h d (n + 1) acc (by omega) (by omega)
theorem spec_BitsList.ev (z : Bool) (b : List Int) (h : niceB b) : Ev (fun k => spec_BitsList.f k z b) (false, bitsList b) := by
  refine ev_step ?_
  simp only [spec_BitsList.f, spec_BitsList.b]
  exact ev_to (spec_BitsList.ev0 z b h (8 * b.length) 0 [] (by omega) (by simp)) (by simp [bitsList])
theorem impl_BitsOk.ev0 (z : Bool) (n : Int) (l : List Int) (hl : l.length ≤ 9223372036854775806) : ∀ (d i : Nat), i + d = l.length → Ev (fun k => impl_BitsOk.l0 k n z l (l.length : Int) (i : Int)) ((l.drop i).all fun x => decide (x < n))
  | 0, i, hi => by
    refine ev_step ?_
    simp only [impl_BitsOk.l0, impl_BitsOk.l0b]
    refine ev_neg (by omega) (ev_some ?_)
    rw [List.drop_of_length_le (by omega)]
    rfl
  | d + 1, i, hi => by
    have hlt : i < l.length := by omega
    refine ev_step ?_
    simp only [impl_BitsOk.l0, impl_BitsOk.l0b]
    refine ev_pos (by omega) (ev_pos (by omega) (ev_pos (by omega) ?_))
    rw [w64s (by omega), rd_nat hlt, List.drop_eq_getElem_cons hlt, List.all_cons]
    refine ev_ite (fun c => ev_some ?_) (fun c => ev_to (impl_BitsOk.ev0 z n l hl d (i + 1) (by omega)) ?_)
    · simp; omega
    · simp; omega
theorem impl_BitsOk.ev (z : Bool) (b : List Int) (n : Int) (h : niceB b) (hn : i64r n) : Ev (fun k => impl_BitsOk.f k z b n) (bitsOk b n) := by
  have hl := h.1
  have hL := bitsList_length b
  refine ev_step ?_
  simp only [impl_BitsOk.f, impl_BitsOk.b]
  unfold bitsOk
  refine Ev.bind (impl_within.ev _ _ _) (ev_ite (fun c => ev_some ?_) fun c => Ev.bind (impl_BitsSize.ev n hn) (ev_ite (fun e => ev_some ?_) fun e => Ev.bind (impl_BitsList.ev z b h) (ev_to (impl_BitsOk.ev0 false n (bitsList b) (by omega) (bitsList b).length 0 (by omega)) ?_)))
  · have : ¬ (1 ≤ n ∧ n ≤ 10) := by simpa using c
    simp [this]
  · have : ¬ (b.length : Int) = bitsSize n := by simpa using e
    simp [this]
  · have c' : 1 ≤ n ∧ n ≤ 10 := by simpa using c
    have e' : (b.length : Int) = bitsSize n := by simpa using e
    simp [c', e']
theorem spec_BitsOk.ev (z : Bool) (b : List Int) (n : Int) (h : niceB b) (hn : i64r n) : Ev (fun k => spec_BitsOk.f k z b n) (bitsOk b n) := by
  have hl := h.1
  have hL := bitsList_length b
  refine ev_step ?_
  simp only [spec_BitsOk.f, spec_BitsOk.b]
  unfold bitsOk
  rw [all_lt_last]
  refine Ev.bind (spec_l02Signers.ev _) (ev_ite (fun c => ev_some ?_) fun c => Ev.bind (spec_BitsSize.ev n hn) (ev_ite (fun e => ev_some ?_) fun e => Ev.bind (spec_BitsList.ev z b h) ?_))
  · have : ¬ (1 ≤ n ∧ n ≤ 10) := by simpa using c
    simp [this]
  · have : ¬ (b.length : Int) = bitsSize n := by simpa using e
    simp [this]
  have c' : 1 ≤ n ∧ n ≤ 10 := by simpa using c
  have e' : (b.length : Int) = bitsSize n := by simpa using e
  refine ev_ite (fun z => ev_some ?_) (fun z => ?_)
  · have z' : (((bitsList b).length : Nat) : Int) = 0 := z
    have : bitsList b = [] := List.length_eq_zero_iff.1 (by omega)
    simp [c', e', this]
  · have z' : ¬ (((bitsList b).length : Nat) : Int) = 0 := z
    have hz : 0 < (bitsList b).length := by omega
    show Ev (fun k => cond (decide ((0 : Int) ≤ wrap64 (((bitsList b).length : Int) - 1))) (cond (decide (wrap64 (((bitsList b).length : Int) - 1) < ((bitsList b).length : Int))) (some (decide (rdI (bitsList b) (wrap64 (((bitsList b).length : Int) - 1)) < n))) none) none) _
    rw [w64p (by omega) hz]
    refine ev_pos (by omega) (ev_pos (by omega) (ev_some ?_))
    rw [rd_nat (by omega)]
    have : bitsList b ≠ [] := by intro x; rw [x] at hz; simp at hz
    simp [c', e', this, List.getLast_eq_getElem]
theorem impl_WeightOf.ev0 (y z : Bool) (l : List Row) (h : tabOk l = true) (x : List Nat) (hx : ∀ i ∈ x, i < l.length) (hxl : x.length ≤ 16) : ∀ (d n : Nat) (acc : Int), n + d = x.length → 0 ≤ acc → acc ≤ n * 1099511627776 → Ev (fun k => impl_WeightOf.l0 k acc y (x.map fun (i : Nat) => (i : Int)) (x.length : Int) (n : Int) z (l.map Row.t)) (acc + isum l (x.drop n)) := by
  intro d
  induction d with
  | zero =>
    intro n acc hn h0 h1
    refine ev_step ?_
    simp only [impl_WeightOf.l0, impl_WeightOf.l0b]
    refine ev_neg (by omega) (ev_some ?_)
    rw [List.drop_of_length_le (by omega)]
    simp [isum]
  | succ d ih =>
    intro n acc hn h0 h1
    obtain ⟨hr, _, hl⟩ := tabOk_iff.1 h
    have hlt : n < x.length := by omega
    have hi := hx _ (List.getElem_mem hlt)
    have e0 : rdI (x.map fun (i : Nat) => (i : Int)) (n : Int) = (x[n] : Int) := by rw [rd_nat (by simpa using hlt), List.getElem_map]
    have bd := (hr _ (List.getElem_mem hi)).1
    refine ev_step ?_
    simp only [impl_WeightOf.l0, impl_WeightOf.l0b, e0, List.length_map, Int.toNat_natCast, row_at hi, Row.c0]
    refine ev_pos (by omega) (ev_pos (by omega) (ev_pos (by omega) (ev_pos (by omega) (ev_pos (by omega) ?_))))
    rw [w64s (by omega), w64 (by omega) (by omega)]
    refine ev_to (ih (n + 1) _ (by omega) (by omega) (by omega)) ?_
    rw [List.drop_eq_getElem_cons hlt, isum]
    simp [hi]
    omega
theorem impl_WeightOf.ev (y z : Bool) (l : List Row) (b : List Int) (h : l.length ≤ 1048576) (hb : niceB b) : Ev (fun k => impl_WeightOf.f k z (l.map Row.t) y b) (weightOf l b) := by
  refine ev_step ?_
  simp only [impl_WeightOf.f, impl_WeightOf.b, List.length_map]
  unfold weightOf
  refine Ev.bind (impl_TableOk.ev z l h) (ev_ite (fun c => ev_some ?_) fun c => Ev.bind (impl_BitsOk.ev y b _ hb (by unfold i64r; omega)) (ev_ite (fun e => ev_some ?_) fun e => Ev.bind (impl_BitsList.ev y b hb) ?_))
  · have : ¬ tabOk l = true := c
    rw [if_neg (fun hh => this hh.1)]
  · have : ¬ bitsOk b (l.length : Int) = true := e
    rw [if_neg (fun hh => this hh.2)]
  · have c' : tabOk l = true := by simpa using c
    have e' : bitsOk b (l.length : Int) = true := by simpa using e
    rw [if_pos ⟨c', e'⟩]
    have b2 := bitsOk_len e'
    obtain ⟨_, _, b3⟩ := bitsOk_iff.1 e'
    have bl := bitsFrom_length b (8 * b.length) 0
    have el : ((bitsList b).length : Int) = ((bitsFrom b 0 (8 * b.length)).length : Int) := by simp [bitsList]
    show Ev (fun k => impl_WeightOf.l0 k 0 false (bitsList b) ((bitsList b).length : Int) 0 z (l.map Row.t)) _
    rw [el]
    refine ev_to (impl_WeightOf.ev0 false z l c' (bitsFrom b 0 (8 * b.length)) (fun i hi => ?_) (by omega) (bitsFrom b 0 (8 * b.length)).length 0 0 (by omega) (by omega) (by omega)) ?_
    · have := b3 (i : Int) (List.mem_map.2 ⟨i, hi, rfl⟩)
      omega
    · rw [List.drop_zero, isum_bits b l _ 0 (fun j hj => bitsOk_bit e' (by omega)) ?_, List.drop_zero]
      · omega
      · obtain ⟨b4, b5, _⟩ := bitsOk_iff.1 e'
        unfold bitsSize at b5
        split at b5 <;> omega
theorem spec_WeightOf.ev0 (y z : Bool) (l : List Row) (b : List Int) (hb : niceB b) (h : tabOk l = true) : ∀ (d n : Nat) (acc : Int), n + d = l.length → 0 ≤ acc → acc ≤ n * 1099511627776 → Ev (fun k => spec_WeightOf.l0 k y b acc z (l.map Row.t) (l.length : Int) (n : Int)) (acc + wsum b n (l.drop n)) := by
  intro d
  induction d with
  | zero =>
    intro n acc hn h0 h1
    refine ev_step ?_
    simp only [spec_WeightOf.l0, spec_WeightOf.l0b]
    refine ev_neg (by omega) (ev_some ?_)
    rw [List.drop_of_length_le (by omega)]
    simp [wsum]
  | succ d ih =>
    intro n acc hn h0 h1
    obtain ⟨hr, _, hl⟩ := tabOk_iff.1 h
    have hlt : n < l.length := by omega
    have bd := (hr _ (List.getElem_mem hlt)).1
    refine ev_step ?_
    simp only [spec_WeightOf.l0, spec_WeightOf.l0b, List.length_map, Int.toNat_natCast, row_at hlt, Row.c0]
    refine ev_pos (by omega) (ev_pos (by omega) (ev_pos (by omega) (Ev.bind (spec_BitsHas.ev y b hb n (by omega)) ?_)))
    rw [w64s (by omega), w64 (by omega) (by omega), List.drop_eq_getElem_cons hlt, wsum]
    refine ev_ite (fun c => ?_) (fun c => ?_)
    · exact ev_to (ih (n + 1) _ (by omega) (by omega) (by omega)) (by rw [if_pos c]; omega)
    · exact ev_to (ih (n + 1) _ (by omega) (by omega) (by omega)) (by rw [if_neg c]; omega)
theorem spec_WeightOf.ev (y z : Bool) (l : List Row) (b : List Int) (h : l.length ≤ 1048576) (hb : niceB b) : Ev (fun k => spec_WeightOf.f k z (l.map Row.t) y b) (weightOf l b) := by
  refine ev_step ?_
  simp only [spec_WeightOf.f, spec_WeightOf.b, List.length_map]
  unfold weightOf
  refine Ev.bind (spec_TableOk.ev z l h) (ev_ite (fun c => ev_some ?_) fun c => Ev.bind (spec_BitsOk.ev y b _ hb (by unfold i64r; omega)) (ev_ite (fun e => ev_some ?_) fun e => ?_))
  · have : ¬ tabOk l = true := c
    rw [if_neg (fun hh => this hh.1)]
  · have : ¬ bitsOk b (l.length : Int) = true := e
    rw [if_neg (fun hh => this hh.2)]
  · have c' : tabOk l = true := by simpa using c
    have e' : bitsOk b (l.length : Int) = true := by simpa using e
    exact ev_to (spec_WeightOf.ev0 y z l b hb c' l.length 0 0 (by omega) (by omega) (by omega)) (by rw [if_pos ⟨c', e'⟩, List.drop_zero]; omega)
theorem impl_TotalOf.ev0 (z y : Bool) (l : List Row) (hN : l.length ≤ 1048576) (h : tabOk l = true) : ∀ (d n : Nat) (acc : Int), n + d = l.length → 0 ≤ acc → acc ≤ n * 1099511627776 → Ev (fun k => impl_TotalOf.l0 k acc z (l.map Row.t) (l.length : Int) (n : Int) y (l.map Row.t)) (acc + total (l.drop n)) := by
  intro d
  induction d with
  | zero =>
    intro n acc hn h0 h1
    refine ev_step ?_
    simp only [impl_TotalOf.l0, impl_TotalOf.l0b]
    refine ev_neg (by omega) (ev_some ?_)
    rw [List.drop_of_length_le (by omega)]
    simp [total]
  | succ d ih =>
    intro n acc hn h0 h1
    obtain ⟨hr, _, hl⟩ := tabOk_iff.1 h
    have hlt : n < l.length := by omega
    have b := (hr _ (List.getElem_mem hlt)).1
    refine ev_step ?_
    simp only [impl_TotalOf.l0, impl_TotalOf.l0b, List.length_map, Int.toNat_natCast, row_at hlt, Row.c0]
    refine ev_pos (by omega) (ev_pos (by omega) (ev_pos (by omega) (Ev.bind (impl_TableOk.ev y l hN) (ev_pos h ?_))))
    rw [w64s (by omega), w64 (by omega) (by omega)]
    refine ev_to (ih (n + 1) _ (by omega) (by omega) (by omega)) ?_
    rw [List.drop_eq_getElem_cons hlt, total]
    omega
theorem impl_TotalOf.ev1 (z y : Bool) (l : List Row) (hN : l.length ≤ 1048576) (h : ¬tabOk l = true) : ∀ (d n : Nat) (acc : Int), n + d = l.length → Ev (fun k => impl_TotalOf.l0 k acc z (l.map Row.t) (l.length : Int) (n : Int) y (l.map Row.t)) acc
  | 0, n, acc, hn => by
    refine ev_step ?_
    simp only [impl_TotalOf.l0, impl_TotalOf.l0b]
    exact ev_neg (by omega) (ev_some rfl)
  | d + 1, n, acc, hn => by
    have hlt : n < l.length := by omega
    refine ev_step ?_
    simp only [impl_TotalOf.l0, impl_TotalOf.l0b, List.length_map, Int.toNat_natCast, row_at hlt, Row.c0]
    refine ev_pos (by omega) (ev_pos (by omega) (ev_pos (by omega) (Ev.bind (impl_TableOk.ev y l hN) (ev_neg h ?_))))
    rw [w64s (by omega)]
    exact impl_TotalOf.ev1 z y l hN h d (n + 1) _ (by omega)
theorem impl_TotalOf.ev (z : Bool) (l : List Row) (h : l.length ≤ 1048576) : Ev (fun k => impl_TotalOf.f k z (l.map Row.t)) (totalOf l) := by
  refine ev_step ?_
  simp only [impl_TotalOf.f, impl_TotalOf.b, List.length_map]
  unfold totalOf
  by_cases c : tabOk l = true
  · exact ev_to (impl_TotalOf.ev0 z z l h c l.length 0 0 (by omega) (by omega) (by omega)) (by rw [if_pos c, List.drop_zero]; omega)
  · exact ev_to (impl_TotalOf.ev1 z z l h c l.length 0 0 (by omega)) (by rw [if_neg c])
theorem spec_TotalOf.ev0 (z : Bool) (l : List Row) (h : tabOk l = true) : ∀ (d n : Nat) (acc : Int), n + d = l.length → 0 ≤ acc → acc ≤ n * 1099511627776 → Ev (fun k => spec_TotalOf.l0 k acc z (l.map Row.t) (l.length : Int) (n : Int)) (acc + total (l.drop n)) := by
  intro d
  induction d with
  | zero =>
    intro n acc hn h0 h1
    refine ev_step ?_
    simp only [spec_TotalOf.l0, spec_TotalOf.l0b]
    refine ev_neg (by omega) (ev_some ?_)
    rw [List.drop_of_length_le (by omega)]
    simp [total]
  | succ d ih =>
    intro n acc hn h0 h1
    obtain ⟨hr, _, hl⟩ := tabOk_iff.1 h
    have hlt : n < l.length := by omega
    have b := (hr _ (List.getElem_mem hlt)).1
    refine ev_step ?_
    simp only [spec_TotalOf.l0, spec_TotalOf.l0b, List.length_map, Int.toNat_natCast, row_at hlt, Row.c0]
    refine ev_pos (by omega) (ev_pos (by omega) (ev_pos (by omega) ?_))
    rw [w64s (by omega), w64 (by omega) (by omega)]
    refine ev_to (ih (n + 1) _ (by omega) (by omega) (by omega)) ?_
    rw [List.drop_eq_getElem_cons hlt, total]
    omega
theorem spec_TotalOf.ev (z : Bool) (l : List Row) (h : l.length ≤ 1048576) : Ev (fun k => spec_TotalOf.f k z (l.map Row.t)) (totalOf l) := by
  refine ev_step ?_
  simp only [spec_TotalOf.f, spec_TotalOf.b, List.length_map]
  unfold totalOf
  refine Ev.bind (spec_TableOk.ev z l h) (ev_ite (fun c => ev_some ?_) fun c => ?_)
  · have : ¬ tabOk l = true := c
    rw [if_neg this]
  · have c' : tabOk l = true := by simpa using c
    exact ev_to (spec_TotalOf.ev0 z l c' l.length 0 0 (by omega) (by omega) (by omega)) (by rw [if_pos c', List.drop_zero]; omega)
theorem spec_IsQuorum.ev (z y : Bool) (l : List Row) (b : List Int) (h : l.length ≤ 1048576) (hb : niceB b) : Ev (fun k => spec_IsQuorum.f k z (l.map Row.t) y b) (isQuorum l b) := by
  have w := weightOf_bd l b
  have t := totalOf_bd l
  refine ev_step ?_
  simp only [spec_IsQuorum.f, spec_IsQuorum.b]
  unfold isQuorum
  refine Ev.bind (spec_TableOk.ev z l h) (ev_ite (fun c => ?_) (fun c => ev_some (by simp [c])))
  refine Ev.bind (spec_WeightOf.ev y z l b h hb) (Ev.bind (spec_TotalOf.ev z l h) (ev_some ?_))
  rw [w64 (by omega) (by omega), w64 (by omega) (by omega), c, Bool.true_and]
theorem impl_IsQuorum.ev (z y : Bool) (l : List Row) (b : List Int) (h : l.length ≤ 1048576) (hb : niceB b) : Ev (fun k => impl_IsQuorum.f k z (l.map Row.t) y b) (isQuorum l b) := by
  have w := weightOf_bd l b
  have t := totalOf_bd l
  refine ev_step ?_
  simp only [impl_IsQuorum.f, impl_IsQuorum.b]
  unfold isQuorum
  refine Ev.bind (impl_TableOk.ev z l h) (ev_ite (fun c => ?_) (fun c => ev_some (by simp [c])))
  refine Ev.bind (impl_WeightOf.ev y z l b h hb) (Ev.bind (impl_TotalOf.ev z l h) (ev_some ?_))
  rw [w64 (by omega) (by omega), w64 (by omega) (by omega), c, Bool.true_and]
end Go.Proofs.YtadnejogdohfkaaG
namespace Go.Proofs.YtadnejogdohfkaaG
open Go Go.Proofs.YtadnejogdohfkaaRv Go.RowKit
set_option linter.unusedVariables false
set_option linter.unusedSimpArgs false

theorem Rows.few {l : List Row} (h : Rows l) : l.length ≤ 1048576 := h.1
theorem QcV.few_cp {q : QcV} (h : q.few) : q.cp.few := ⟨h.1, h.2.1, fewB_cp h.2.2⟩
end Go.Proofs.YtadnejogdohfkaaG
namespace Go.Proofs.YtadnejogdohfkaaG
open Go Go.Proofs.YtadnejogdohfkaaRv Go.RowKit
set_option linter.unusedVariables false
set_option linter.unusedSimpArgs false

theorem bits_ext {a b : List Int} (ha : niceB a) (hb : niceB b) (hl : a.length = b.length) (h : ∀ j, bitAt a j = bitAt b j) : a = b := by
  refine List.ext_getElem hl fun i h1 h2 => ?_
  have p := ha.2 _ (List.getElem_mem h1)
  have q := hb.2 _ (List.getElem_mem h2)
  have e : ∀ m, m < 8 → (a[i]).toNat.testBit m = (b[i]).toNat.testBit m := fun m hm => by
    have := h (8 * i + m)
    rw [bitAt_test ha, bitAt_test hb, show (8 * i + m) / 8 = i by omega, show (8 * i + m) % 8 = m by omega, rd_nat h1, rd_nat h2] at this
    exact this
  have : (a[i]).toNat = (b[i]).toNat := by
    refine Nat.eq_of_testBit_eq fun m => ?_
    by_cases hm : m < 8
    · exact e m hm
    · have t : ∀ x : Nat, x < 256 → x.testBit m = false := fun x hx => by
        refine Nat.testBit_lt_two_pow (Nat.lt_of_lt_of_le hx ?_)
        exact Nat.le_trans (show 256 ≤ 2 ^ 8 by decide) (Nat.pow_le_pow_right (by decide) (by omega))
      rw [t _ (by omega), t _ (by omega)]
  omega
theorem impl_BitsNew.ev (n : Nat) (h1 : 1 ≤ n) (h2 : n ≤ 10) : Ev (fun k => impl_BitsNew.f k (n : Int)) (false, List.replicate (bitsSize (n : Int)).toNat 0) := by
  have z := bitsSize_bd h1 h2
  refine ev_step ?_
  simp only [impl_BitsNew.f, impl_BitsNew.b]
  exact Ev.bind (impl_within.ev _ _ _) (ev_neg (by simp; omega) (Ev.bind (impl_BitsSize.ev _ (by unfold i64r; omega)) (ev_pos trivial (ev_pos (by omega) (ev_pos (by omega) (ev_some rfl))))))
def castL (own : List Nat) : List Int := own.map fun (n : Nat) => (n : Int)
theorem castL_rd {own : List Nat} {i : Nat} (h : i < own.length) : rdI (castL own) (i : Int) = ((own[i] : Nat) : Int) := by
  rw [rd_nat (by simp [castL]; exact h)]
  simp [castL]
theorem castL_len (own : List Nat) : (castL own).length = own.length := by simp [castL]
theorem impl_BitsOf.ev0 (n : Nat) (h1 : 1 ≤ n) (h2 : n ≤ 10) (y : Bool) (own : List Nat) (ho : ∀ i ∈ own, i < n) (hl : own.length ≤ 4611686018427387904) : ∀ (d i : Nat) (b : List Int), i + d = own.length → (b.length : Int) = bitsSize (n : Int) → Ev (fun k => impl_BitsOf.l0 k (n : Int) false b y (castL own) (own.length : Int) (i : Int)) (false, setAll b (own.drop i), true) := by
  intro d
  induction d with
  | zero =>
    intro i b hi hb
    refine ev_step ?_
    simp only [impl_BitsOf.l0, impl_BitsOf.l0b]
    refine ev_neg (by omega) (ev_some ?_)
    rw [List.drop_of_length_le (by omega)]
    rfl
  | succ d ih =>
    intro i b hi hb
    have z := bitsSize_bd h1 h2
    have hlt : i < own.length := by omega
    have hx := ho _ (List.getElem_mem hlt)
    have e8 : Int.tdiv ((own[i] : Nat) : Int) 8 = ((own[i] / 8 : Nat) : Int) := tdiv_nat _ 8
    have m8 : Int.tmod ((own[i] : Nat) : Int) 8 = ((own[i] % 8 : Nat) : Int) := tmod_nat _ 8
    have e := ih (i + 1) (bitSet .or b own[i]) (by omega) (by rw [bitSet_length]; exact hb)
    refine ev_step ?_
    simp only [impl_BitsOf.l0, impl_BitsOf.l0b]
    rw [castL_rd hlt, castL_len, e8, m8, w64n (by omega), Int.toNat_natCast, shl1 (by omega), w64s (n := i) (by omega), w64 (by omega) (by omega)]
    refine ev_pos (by omega) (ev_pos (by omega) (ev_pos (by omega) (Ev.bind (impl_within.ev _ _ _) (ev_neg (by simp; omega) ?_))))
    refine ev_pos (by omega) (ev_pos (by omega) (ev_pos (by omega) (ev_pos (by omega) (ev_pos (by omega) ?_))))
    rw [List.drop_eq_getElem_cons hlt]
    exact e
theorem impl_BitsOf.ev (n : Nat) (h1 : 1 ≤ n) (h2 : n ≤ 10) (y : Bool) (own : List Nat) (ho : ∀ i ∈ own, i < n) (hl : own.length ≤ 4611686018427387904) : Ev (fun k => impl_BitsOf.f k y (castL own) (n : Int)) (false, bitsOf n own, true) := by
  have z := bitsSize_bd h1 h2
  have e := impl_BitsOf.ev0 n h1 h2 y own ho hl own.length 0 (List.replicate (bitsSize (n : Int)).toNat 0) (by omega) (by rw [List.length_replicate]; omega)
  rw [List.drop_zero] at e
  refine ev_step ?_
  simp only [impl_BitsOf.f, impl_BitsOf.b, castL_len]
  exact Ev.bind (impl_within.ev _ _ _) (ev_neg (by simp; omega) (Ev.bind (impl_BitsNew.ev n h1 h2) e))
end Go.Proofs.YtadnejogdohfkaaG
namespace Go.Proofs.YtadnejogdohfkaaG
open Go Go.Proofs.YtadnejogdohfkaaRv Go.RowKit
set_option linter.unusedVariables false
set_option linter.unusedSimpArgs false

end Go.Proofs.YtadnejogdohfkaaG
namespace Go.Proofs.YtadnejogdohfkaaG
open Go Go.Proofs.YtadnejogdohfkaaRv Go.RowKit
set_option linter.unusedVariables false
set_option linter.unusedSimpArgs false

structure QcK (q : QcV) : Prop where
  v : isNum q.v = true
  h : isNum q.h = true
  blk : q.blk.length = 32
  bits : q.bits.length ≤ 2
  cnt : q.tags.length ≤ 16
  tags : ∀ b ∈ q.tags, b.l.length = 32
structure HeadK (x : Head) : Prop where
  v : isNum x.v = true
  h : isNum x.h = true
  p : isNum x.p = true
  par : x.par.length = 32
  root : x.root.length = 32
  q : QcK x.q
end Go.Proofs.YtadnejogdohfkaaG
namespace Go.Proofs.YtadnejogdohfkaaG
open Go Go.Proofs.YtadnejogdohfkaaRv Go.RowKit
set_option linter.unusedVariables false
set_option linter.unusedSimpArgs false


def cnt {α : Type} (w : α → Nat) (l : List α) : Nat := (l.map w).sum
def byW (b : By) : Nat := b.l.length
def QcV.w (q : QcV) : Nat := q.blk.length + q.bits.length + cnt byW q.tags

end Go.Proofs.YtadnejogdohfkaaG
namespace Go.Proofs.YtadnejogdohfkaaG
open Go Go.Proofs.YtadnejogdohfkaaRv Go.RowKit
set_option linter.unusedVariables false
set_option linter.unusedSimpArgs false


def lexLt : List Nat → List Nat → Bool
  | [], _ => false
  | _ :: _, [] => false
  | a :: x, b :: y => decide (a < b) || (decide (a = b) && lexLt x y)
def lessL (x y : List Nat) : Bool := decide (x.length < y.length) || (decide (x.length = y.length) && lexLt x y)
theorem lex_total : ∀ {x y : List Nat}, x.length = y.length → lexLt x y = false → lexLt y x = false → x = y
  | [], [], _, _, _ => rfl
  | [], _ :: _, h, _, _ => by simp at h
  | _ :: _, [], h, _, _ => by simp at h
  | a :: x, b :: y, h, h1, h2 => by
    simp only [lexLt, Bool.or_eq_false_iff, decide_eq_false_iff_not, Bool.and_eq_false_imp, decide_eq_true_eq] at h1 h2
    have e : a = b := by omega
    subst e
    rw [lex_total (by simpa using h) (h1.2 rfl) (h2.2 rfl)]
theorem lex_trans : ∀ {x y z : List Nat}, lexLt x y = true → lexLt y z = true → lexLt x z = true
  | [], _, _, h, _ => by simp [lexLt] at h
  | _ :: _, [], _, h, _ => by simp [lexLt] at h
  | _ :: _, _ :: _, [], _, h => by simp [lexLt] at h
  | a :: x, b :: y, c :: z, h1, h2 => by
    simp only [lexLt, Bool.or_eq_true, decide_eq_true_eq, Bool.and_eq_true] at h1 h2 ⊢
    rcases h1 with h1 | ⟨h1, h1'⟩ <;> rcases h2 with h2 | ⟨h2, h2'⟩
    · exact .inl (by omega)
    · exact .inl (by omega)
    · exact .inl (by omega)
    · exact .inr ⟨by omega, lex_trans h1' h2'⟩
theorem less_total {x y : List Nat} (h1 : lessL x y = false) (h2 : lessL y x = false) : x = y := by
  simp only [lessL, Bool.or_eq_false_iff, decide_eq_false_iff_not, Bool.and_eq_false_imp, decide_eq_true_eq] at h1 h2
  have e : x.length = y.length := by omega
  exact lex_total e (h1.2 e) (h2.2 e.symm)
theorem less_trans {x y z : List Nat} (h1 : lessL x y = true) (h2 : lessL y z = true) : lessL x z = true := by
  simp only [lessL, Bool.or_eq_true, decide_eq_true_eq, Bool.and_eq_true] at h1 h2 ⊢
  rcases h1 with h1 | ⟨h1, h1'⟩ <;> rcases h2 with h2 | ⟨h2, h2'⟩
  · exact .inl (by omega)
  · exact .inl (by omega)
  · exact .inl (by omega)
  · exact .inr ⟨by omega, lex_trans h1' h2'⟩
def qu (l : List Row) (x : List Nat) : Bool := isQuorum l (bitsOf l.length x)
theorem total_pos {l : List Row} (T : tabOk l = true) : 0 < total l := by
  obtain ⟨hr, h1, h2⟩ := tabOk_iff.1 T
  match l, h1, hr with
  | r :: t, _, hw =>
    have h1 := (hw r (by simp)).1
    have h2 := (total_bd (l := t) (fun x hx => (hw x (by simp [hx])).1)).1
    simp only [total]
    omega
theorem qu_full {l : List Row} (T : tabOk l = true) : qu l (List.range l.length) = true := by
  obtain ⟨hr, h1, h2⟩ := tabOk_iff.1 T
  obtain ⟨_, _, ob, hb⟩ := bitsOf_spec h1 h2 (own := List.range l.length) (fun i hi => by simpa using hi)
  have t1 := total_pos T
  have e := wsum_full (b := bitsOf l.length (List.range l.length)) l 0 (fun j hj => by rw [hb]; exact decide_eq_true (List.mem_range.2 (by omega)))
  unfold qu isQuorum weightOf totalOf
  rw [if_pos ⟨T, ob⟩, if_pos T, e, T, Bool.true_and]
  exact decide_eq_true (by omega)
theorem qu_nil {l : List Row} (T : tabOk l = true) : qu l [] = false := by
  obtain ⟨hr, h1, h2⟩ := tabOk_iff.1 T
  obtain ⟨_, _, ob, hb⟩ := bitsOf_spec h1 h2 (own := []) (fun i hi => by simp at hi)
  have t1 := total_pos T
  have e : ∀ (t : List Row) (i : Nat), wsum (bitsOf l.length []) i t = 0 := by
    intro t
    induction t with
    | nil => intro i; rfl
    | cons r t ih => intro i; simp only [wsum, hb, ih]; simp
  unfold qu isQuorum weightOf totalOf
  rw [if_pos ⟨T, ob⟩, if_pos T, e, T, Bool.true_and]
  exact decide_eq_false (by omega)


def Longer (n : Nat) (own : List Nat) (m : Nat) (tl : List Nat) : Prop := tl.length = m ∧ (own ++ tl).Pairwise (· < ·) ∧ ∀ i ∈ own ++ tl, i < n
theorem castL_snoc (own : List Nat) (i : Nat) : castL own ++ [(i : Int)] = castL (own ++ [i]) := by simp [castL]
def MinR (l : List Row) (own : List Nat) (m : Nat) (r : Bool × List Int) : Prop :=
  (r = (true, []) ∧ ∀ tl, Longer l.length own m tl → qu l (own ++ tl) = false) ∨
  (∃ tl, Longer l.length own m tl ∧ r = (false, bitsOf l.length (own ++ tl)) ∧ qu l (own ++ tl) = true ∧ ∀ tl', Longer l.length own m tl' → qu l (own ++ tl') = true → lexLt tl' tl = false)
def MinL (l : List Row) (own : List Nat) (m i : Nat) (r : Bool × List Int) : Prop :=
  (r = (true, []) ∧ ∀ c tl, i ≤ c → Longer l.length own (m + 1) (c :: tl) → qu l (own ++ c :: tl) = false) ∨
  (∃ c tl, i ≤ c ∧ Longer l.length own (m + 1) (c :: tl) ∧ r = (false, bitsOf l.length (own ++ c :: tl)) ∧ qu l (own ++ c :: tl) = true ∧ ∀ c' tl', i ≤ c' → Longer l.length own (m + 1) (c' :: tl') → qu l (own ++ c' :: tl') = true → lexLt (c' :: tl') (c :: tl) = false)
theorem impl_leastOf.loop (z : Bool) (l : List Row) (h1 : 1 ≤ l.length) (h2 : l.length ≤ 10) (m : Nat) (hm : m ≤ 20) (B : Nat) (hB : B ≤ 1000) (ih : ∀ own : List Nat, own.Pairwise (· < ·) → (∀ i ∈ own, i < l.length) → own.length ≤ B → ∀ y, ∃ r, Ev (fun k => impl_leastOf.f k z (l.map Row.t) y (castL own) (m : Int)) r ∧ MinR l own m r)
    (own : List Nat) (hs : own.Pairwise (· < ·)) (hb : ∀ i ∈ own, i < l.length) (hl : own.length + 1 ≤ B) (y : Bool) : ∀ (d i : Nat), i + d = l.length → (∀ x ∈ own, x < i) → ∃ r, Ev (fun k => impl_leastOf.l1 k y (castL own) ((m + 1 : Nat) : Int) (i : Int) z (l.map Row.t)) r ∧ MinL l own m i r := by
  intro d
  induction d with
  | zero =>
    intro i hi hx
    refine ⟨(true, []), ev_step ?_, .inl ⟨rfl, fun c tl hc ht => ?_⟩⟩
    · simp only [impl_leastOf.l1, impl_leastOf.l1b, List.length_map]
      exact ev_neg (by omega) (ev_some rfl)
    · have := ht.2.2 c (by simp)
      omega
  | succ d ihd =>
    intro i hi hx
    have hp : (own ++ [i]).Pairwise (· < ·) := by
      rw [List.pairwise_append]
      exact ⟨hs, by simp, fun a ha b hb => by rw [List.mem_singleton.1 hb]; exact hx a ha⟩
    have hq : ∀ x ∈ own ++ [i], x < l.length := fun x hx' => by
      rcases List.mem_append.1 hx' with h | h
      · exact hb x h
      · rw [List.mem_singleton.1 h]; omega
    obtain ⟨r1, e1, q1⟩ := ih (own ++ [i]) hp hq (by simp; omega) false
    have ew : wrap64 (((m + 1 : Nat) : Int) - 1) = (m : Int) := by rw [w64 (by omega) (by omega)]; omega
    have cl := castL_len own
    rcases q1 with ⟨rfl, none⟩ | ⟨tl, ht, rfl, hq1, hmin⟩
    · obtain ⟨r2, e2, q2⟩ := ihd (i + 1) (by omega) (fun x hx' => by have := hx x hx'; omega)
      refine ⟨r2, ev_step ?_, ?_⟩
      · simp only [impl_leastOf.l1, impl_leastOf.l1b, List.length_map, castL_snoc, ew, succ_nat i (by omega)]
        exact ev_pos (by omega) (ev_pos (by omega) (ev_pos (by omega) (Ev.bind e1 (ev_neg (by simp) e2))))
      · have none' : ∀ tl, Longer l.length own (m + 1) (i :: tl) → qu l (own ++ i :: tl) = false := fun tl ht => by
          have ea : own ++ i :: tl = own ++ [i] ++ tl := by simp
          rw [ea]
          exact none tl ⟨by have := ht.1; simp at this; omega, by rw [← ea]; exact ht.2.1, by rw [← ea]; exact ht.2.2⟩
        rcases q2 with ⟨rfl, none2⟩ | ⟨c, tl, hc, ht, hr, hqr, hmin⟩
        · refine .inl ⟨rfl, fun c tl hc ht => ?_⟩
          by_cases e : c = i
          · subst e; exact none' tl ht
          · exact none2 c tl (by omega) ht
        · refine .inr ⟨c, tl, by omega, ht, hr, hqr, fun c' tl' hc' ht' hq' => ?_⟩
          by_cases e : c' = i
          · subst e; rw [none' tl' ht'] at hq'; cases hq'
          · exact hmin c' tl' (by omega) ht' hq'
    · have ea : own ++ i :: tl = own ++ [i] ++ tl := by simp
      refine ⟨(false, bitsOf l.length (own ++ [i] ++ tl)), ev_step ?_, .inr ⟨i, tl, Nat.le_refl _, ⟨by have := ht.1; simp; omega, by rw [ea]; exact ht.2.1, by rw [ea]; exact ht.2.2⟩, by rw [ea], by rw [ea]; exact hq1, fun c' tl' hc' ht' hq' => ?_⟩⟩
      · simp only [impl_leastOf.l1, impl_leastOf.l1b, List.length_map, castL_snoc, ew]
        exact ev_pos (by omega) (ev_pos (by omega) (ev_pos (by omega) (Ev.bind e1 (ev_pos (by simp) (ev_some rfl)))))
      · by_cases e : c' = i
        · subst e
          have ea' : own ++ c' :: tl' = own ++ [c'] ++ tl' := by simp
          have := hmin tl' ⟨by have := ht'.1; simp at this; omega, by rw [← ea']; exact ht'.2.1, by rw [← ea']; exact ht'.2.2⟩ (by rw [← ea']; exact hq')
          simp [lexLt, this]
        · simp only [lexLt, Bool.or_eq_false_iff, decide_eq_false_iff_not, Bool.and_eq_false_imp, decide_eq_true_eq]
          exact ⟨by omega, fun h => (e h).elim⟩
theorem min_LR {l : List Row} {own : List Nat} {m i : Nat} {r : Bool × List Int} (hi : ∀ c tl, Longer l.length own (m + 1) (c :: tl) → i ≤ c) (q : MinL l own m i r) : MinR l own (m + 1) r := by
  rcases q with ⟨hr, none⟩ | ⟨c, tl, _, ht, hr, hq, hmin⟩
  · refine .inl ⟨hr, fun tl ht => ?_⟩
    match tl, ht with
    | [], ht => have := ht.1; simp at this
    | c :: tl, ht => exact none c tl (hi c tl ht) ht
  · refine .inr ⟨c :: tl, ht, hr, hq, fun tl' ht' hq' => ?_⟩
    match tl', ht' with
    | [], ht' => have := ht'.1; simp at this
    | c' :: tl', ht' => exact hmin c' tl' (hi c' tl' ht') ht' hq'
theorem impl_leastOf.evR (z : Bool) (l : List Row) (h : l.length ≤ 1048576) (h1 : 1 ≤ l.length) (h2 : l.length ≤ 10) : ∀ (m : Nat), m ≤ 20 → ∀ own : List Nat, own.Pairwise (· < ·) → (∀ i ∈ own, i < l.length) → own.length + m ≤ 99 → ∀ y, ∃ r, Ev (fun k => impl_leastOf.f k z (l.map Row.t) y (castL own) (m : Int)) r ∧ MinR l own m r := by
  intro m
  induction m with
  | zero =>
    intro hm own hs hb hl y
    have sp := bitsOf_spec h1 h2 hb
    have eb := impl_BitsOf.ev l.length h1 h2 y own hb (by omega)
    have eq := impl_IsQuorum.ev z false l (bitsOf l.length own) h sp.1
    cases c : isQuorum l (bitsOf l.length own) with
    | true =>
      refine ⟨(false, bitsOf l.length own), ev_step ?_, .inr ⟨[], ⟨rfl, by simpa using hs, by simpa using hb⟩, by simp, by rw [List.append_nil]; exact c, fun tl' ht' _ => by rw [List.eq_nil_of_length_eq_zero ht'.1]; rfl⟩⟩
      simp only [impl_leastOf.f, impl_leastOf.b, List.length_map]
      refine ev_pos rfl (Ev.bind eb (Ev.bind eq ?_))
      exact ev_neg (by rw [c]; simp) (ev_some rfl)
    | false =>
      refine ⟨(true, []), ev_step ?_, .inl ⟨rfl, fun tl ht => ?_⟩⟩
      · simp only [impl_leastOf.f, impl_leastOf.b, List.length_map]
        refine ev_pos rfl (Ev.bind eb (Ev.bind eq ?_))
        exact ev_pos (by rw [c]; simp) (ev_some rfl)
      · have := List.eq_nil_of_length_eq_zero ht.1
        subst this
        rw [List.append_nil]
        exact c
  | succ m ih =>
    intro hm own hs hb hl y
    have ih' : ∀ own' : List Nat, own'.Pairwise (· < ·) → (∀ i ∈ own', i < l.length) → own'.length ≤ own.length + 1 → ∀ y, ∃ r, Ev (fun k => impl_leastOf.f k z (l.map Row.t) y (castL own') (m : Int)) r ∧ MinR l own' m r := fun own' a b c y => ih (by omega) own' a b (by omega) y
    have cl := castL_len own
    by_cases c : own = []
    · subst c
      obtain ⟨r, e, q⟩ := impl_leastOf.loop z l h1 h2 m (by omega) _ (by simp) ih' [] hs hb (Nat.le_refl _) y l.length 0 (by omega) (by simp)
      refine ⟨r, ev_step ?_, min_LR (fun _ _ _ => Nat.zero_le _) q⟩
      simp only [impl_leastOf.f, impl_leastOf.b]
      refine ev_neg (by omega) (ev_neg (by rw [cl]; simp) (ev_step ?_))
      simp only [impl_leastOf.l0, impl_leastOf.l0b]
      exact e
    · obtain ⟨o, w, rfl⟩ : ∃ o w, own = o ++ [w] := ⟨own.dropLast, own.getLast c, (List.dropLast_concat_getLast c).symm⟩
      have hz := hb w (by simp)
      have ol : (o ++ [w]).length = o.length + 1 := by simp
      have lt : ∀ x ∈ o ++ [w], x < w + 1 := fun x hx => by
        rcases List.mem_append.1 hx with h | h
        · have := (List.pairwise_append.1 hs).2.2 x h w (by simp)
          omega
        · rw [List.mem_singleton.1 h]; omega
      obtain ⟨r, e, q⟩ := impl_leastOf.loop z l h1 h2 m (by omega) _ (by omega) ih' (o ++ [w]) hs hb (Nat.le_refl _) y (l.length - (w + 1)) (w + 1) (by omega) lt
      refine ⟨r, ev_step ?_, min_LR (fun c tl ht => (List.pairwise_append.1 ht.2.1).2.2 w (by simp) c (by simp)) q⟩
      have ez : rdI (castL (o ++ [w])) (o.length : Int) = (w : Int) := by
        rw [castL_rd (by omega)]
        simp
      have ew : wrap64 (((castL (o ++ [w])).length : Int) - 1) = (o.length : Int) := by rw [w64 (by omega) (by omega)]; omega
      simp only [impl_leastOf.f, impl_leastOf.b]
      refine ev_neg (by omega) (ev_pos (by omega) ?_)
      rw [ew, ez, succ_nat w (by omega)]
      refine ev_pos (by omega) (ev_pos (by omega) (ev_step ?_))
      simp only [impl_leastOf.l0, impl_leastOf.l0b]
      exact e

def Least (l : List Row) (x : List Nat) : Prop := (x.Pairwise (· < ·) ∧ ∀ i ∈ x, i < l.length) ∧ qu l x = true ∧ ∀ y : List Nat, y.Pairwise (· < ·) → (∀ i ∈ y, i < l.length) → qu l y = true → lessL y x = false
theorem least_uniq {l : List Row} {x y : List Nat} (hx : Least l x) (hy : Least l y) : x = y := less_total (hy.2.2 x hx.1.1 hx.1.2 hx.2.1) (hx.2.2 y hy.1.1 hy.1.2 hy.2.1)
theorem impl_Least.ev0 (z : Bool) (l : List Row) (h : l.length ≤ 1048576) (T : tabOk l = true) : ∀ (d s : Nat), s + d = l.length + 1 → 1 ≤ s → (∀ s' tl, 1 ≤ s' → s' < s → Longer l.length [] s' tl → qu l tl = false) → ∃ x, Least l x ∧ Ev (fun k => impl_Least.l0 k (l.length : Int) (s : Int) z (l.map Row.t)) (false, bitsOf l.length x) := by
  obtain ⟨_, h1, h2⟩ := tabOk_iff.1 T
  intro d
  induction d with
  | zero =>
    intro s hs _ hn
    have := hn l.length (List.range l.length) h1 (by omega) ⟨by simp, by simpa using List.pairwise_lt_range, fun i hi => by simpa using hi⟩
    rw [qu_full T] at this
    cases this
  | succ d ih =>
    intro s hs h0 hn
    obtain ⟨r, e, q⟩ := impl_leastOf.evR z l h h1 h2 s (by omega) [] List.Pairwise.nil (by simp) (by simp; omega) true
    rcases q with ⟨rfl, none⟩ | ⟨tl, ht, rfl, hq, hmin⟩
    · obtain ⟨x, q1, e1⟩ := ih (s + 1) (by omega) (by omega) (fun s' tl a b ht => by
        by_cases c : s' = s
        · subst c; simpa using none tl ht
        · exact hn s' tl a (by omega) ht)
      refine ⟨x, q1, ev_step ?_⟩
      simp only [impl_Least.l0, impl_Least.l0b]
      refine ev_pos (by omega) (Ev.bind e (ev_neg (by simp) ?_))
      rw [succ_nat s (by omega)]
      exact e1
    · rw [List.nil_append] at hq
      have hp := ht.2.1
      have hb := ht.2.2
      rw [List.nil_append] at hp hb
      refine ⟨tl, ⟨⟨hp, hb⟩, hq, fun y yp yb yq => ?_⟩, ev_step ?_⟩
      · simp only [lessL, Bool.or_eq_false_iff, decide_eq_false_iff_not, Bool.and_eq_false_imp, decide_eq_true_eq]
        have ly := ht.1
        refine ⟨fun hlt => ?_, fun he => hmin y ⟨by omega, by simpa using yp, by simpa using yb⟩ (by simpa using yq)⟩
        by_cases y0 : y = []
        · subst y0; rw [qu_nil T] at yq; cases yq
        · have : 0 < y.length := List.length_pos_iff.2 y0
          have := hn y.length y (by omega) (by omega) ⟨rfl, by simpa using yp, by simpa using yb⟩
          rw [this] at yq; cases yq
      · simp only [impl_Least.l0, impl_Least.l0b]
        exact ev_pos (by omega) (Ev.bind e (ev_pos (by simp) (ev_some (by simp))))
theorem impl_Least.ev (z : Bool) (l : List Row) (h : l.length ≤ 1048576) : ∃ r, Ev (fun k => impl_Least.f k z (l.map Row.t)) r ∧ ((tabOk l = false ∧ r = (true, [])) ∨ (tabOk l = true ∧ ∃ x, Least l x ∧ r = (false, bitsOf l.length x))) := by
  cases T : tabOk l with
  | false =>
    refine ⟨(true, []), ev_step ?_, .inl ⟨rfl, rfl⟩⟩
    simp only [impl_Least.f, impl_Least.b]
    exact Ev.bind (impl_TableOk.ev _ _ h) (ev_pos (by rw [T]; simp) (ev_some rfl))
  | true =>
    obtain ⟨x, q, e⟩ := impl_Least.ev0 z l h T l.length 1 (by omega) (by omega) (fun s' tl a b => by omega)
    refine ⟨_, ev_step ?_, .inr ⟨rfl, x, q, rfl⟩⟩
    simp only [impl_Least.f, impl_Least.b, List.length_map]
    exact Ev.bind (impl_TableOk.ev _ _ h) (ev_neg (by rw [T]; simp) e)


def fixB : Nat → Nat → List Int
  | 0, _ => []
  | s + 1, k => ((k % 256 : Nat) : Int) :: fixB s (k / 256)
theorem fixB_len : ∀ (s k : Nat), (fixB s k).length = s
  | 0, _ => rfl
  | s + 1, k => by simp [fixB, fixB_len]
theorem fixB_nice {s k : Nat} (h : s ≤ 2) : niceB (fixB s k) := by
  refine ⟨by rw [fixB_len]; omega, ?_⟩
  have : ∀ (s k : Nat), ∀ x ∈ fixB s k, 0 ≤ x ∧ x < 256 := by
    intro s
    induction s with
    | zero => intro k x hx; simp [fixB] at hx
    | succ s ih =>
      intro k x hx
      rcases List.mem_cons.1 hx with rfl | hx
      · omega
      · exact ih _ x hx
  exact this s k
theorem fixB_at : ∀ (s k q : Nat), q < s → rdI (fixB s k) (q : Int) = ((k / 256 ^ q % 256 : Nat) : Int)
  | 0, k, q, h => by omega
  | s + 1, k, 0, h => by simp [fixB, rdI]
  | s + 1, k, q + 1, h => by
    have e : rdI (fixB (s + 1) k) ((q + 1 : Nat) : Int) = rdI (fixB s (k / 256)) (q : Int) := by simp [fixB, rdI]
    rw [e, fixB_at s (k / 256) q (by omega), Nat.div_div_eq_div_mul, Nat.pow_succ, Nat.mul_comm]
theorem byte_bit (x r : Nat) (h : r < 8) : x % 256 / 2 ^ r % 2 = x / 2 ^ r % 2 := by
  match r, h with
  | 0, _ => simp only [Nat.pow_zero]; omega
  | 1, _ => simp only [show (2 : Nat) ^ 1 = 2 by rfl]; omega
  | 2, _ => simp only [show (2 : Nat) ^ 2 = 4 by rfl]; omega
  | 3, _ => simp only [show (2 : Nat) ^ 3 = 8 by rfl]; omega
  | 4, _ => simp only [show (2 : Nat) ^ 4 = 16 by rfl]; omega
  | 5, _ => simp only [show (2 : Nat) ^ 5 = 32 by rfl]; omega
  | 6, _ => simp only [show (2 : Nat) ^ 6 = 64 by rfl]; omega
  | 7, _ => simp only [show (2 : Nat) ^ 7 = 128 by rfl]; omega
theorem fixB_bit {s k j : Nat} (h : j < 8 * s) : bitAt (fixB s k) j = k.testBit j := by
  unfold bitAt
  rw [fixB_at s k (j / 8) (by omega), Nat.testBit_eq_decide_div_mod_eq]
  have e1 : k / 256 ^ (j / 8) / 2 ^ (j % 8) = k / 2 ^ j := by
    rw [Nat.div_div_eq_div_mul]
    congr 1
    rw [show (256 : Nat) = 2 ^ 8 by rfl, ← Nat.pow_mul, ← Nat.pow_add]
    congr 1
    omega
  have e2 := byte_bit (k / 256 ^ (j / 8)) (j % 8) (by omega)
  rw [e1] at e2
  have e3 : (((k / 256 ^ (j / 8) % 256 : Nat) : Int) / 2 ^ (j % 8)) % 2 = ((k / 2 ^ j % 2 : Nat) : Int) := by
    rw [← e2, Int.natCast_emod, Int.natCast_ediv, Int.natCast_pow]
    rfl
  rw [e3, Bool.eq_iff_iff]
  simp only [beq_iff_eq, decide_eq_true_eq]
  omega
theorem fixB_bits {n k : Nat} (h1 : 1 ≤ n) (h2 : n ≤ 10) (hk : k < 2 ^ n) (j : Nat) : bitAt (fixB (bitsSize (n : Int)).toNat k) j = k.testBit j := by
  have z := bitsSize_bd h1 h2
  by_cases h : j < 8 * (bitsSize (n : Int)).toNat
  · exact fixB_bit h
  · rw [bitAt_out (by rw [fixB_len]; omega), Nat.testBit_lt_two_pow (Nat.lt_of_lt_of_le hk (Nat.pow_le_pow_right (by decide) (by omega)))]
theorem fixB_ok {n k : Nat} (h1 : 1 ≤ n) (h2 : n ≤ 10) (hk : k < 2 ^ n) : bitsOk (fixB (bitsSize (n : Int)).toNat k) (n : Int) = true := by
  have z := bitsSize_bd h1 h2
  refine bitsOk_of h1 h2 (by rw [fixB_len]; omega) fun j hj => ?_
  rw [fixB_bits h1 h2 hk] at hj
  refine Nat.lt_of_not_le fun hh => ?_
  rw [Nat.testBit_lt_two_pow (Nat.lt_of_lt_of_le hk (Nat.pow_le_pow_right (by decide) hh))] at hj
  cases hj

def numOf : List Nat → Nat
  | [] => 0
  | i :: x => 2 ^ i ||| numOf x
theorem numOf_bit : ∀ (x : List Nat) (j : Nat), (numOf x).testBit j = decide (j ∈ x)
  | [], j => by simp [numOf]
  | i :: x, j => by
    rw [numOf, Nat.testBit_or, numOf_bit x j, Nat.testBit_two_pow, Bool.eq_iff_iff]
    simp only [Bool.or_eq_true, decide_eq_true_eq, List.mem_cons]
    exact ⟨fun h => h.imp Eq.symm id, fun h => h.imp Eq.symm id⟩
theorem numOf_lt {n : Nat} : ∀ {x : List Nat}, (∀ i ∈ x, i < n) → numOf x < 2 ^ n
  | [], _ => Nat.pow_pos (by decide)
  | i :: x, h => by
    rw [numOf]
    exact Nat.or_lt_two_pow (Nat.pow_lt_pow_right (by decide) (h i (by simp))) (numOf_lt fun j hj => h j (by simp [hj]))
theorem fixB_of {n : Nat} (h1 : 1 ≤ n) (h2 : n ≤ 10) {x : List Nat} (hx : ∀ i ∈ x, i < n) : fixB (bitsSize (n : Int)).toNat (numOf x) = bitsOf n x := by
  have z := bitsSize_bd h1 h2
  obtain ⟨a1, a2, _, a4⟩ := bitsOf_spec h1 h2 hx
  refine bits_ext (fixB_nice (by omega)) a1 (by rw [fixB_len]; omega) fun j => ?_
  rw [fixB_bits h1 h2 (numOf_lt hx), numOf_bit, a4]

def sgn (n k : Nat) : List Nat := bitsFrom (fixB (bitsSize (n : Int)).toNat k) 0 (8 * (bitsSize (n : Int)).toNat)
theorem sgn_sorted (n k : Nat) : (sgn n k).Pairwise (· < ·) := bitsFrom_sorted _ _ _
theorem sgn_lt {n k : Nat} (h1 : 1 ≤ n) (h2 : n ≤ 10) (hk : k < 2 ^ n) : ∀ i ∈ sgn n k, i < n := fun i hi => by
  have := ((bitsFrom_mem _ _ _ _).1 hi).2
  exact bitsOk_lt (fixB_ok h1 h2 hk) this
theorem sgn_of {n k : Nat} (h1 : 1 ≤ n) (h2 : n ≤ 10) (hk : k < 2 ^ n) : bitsOf n (sgn n k) = fixB (bitsSize (n : Int)).toNat k := by
  have z := bitsSize_bd h1 h2
  obtain ⟨a1, a2, _, a4⟩ := bitsOf_spec h1 h2 (sgn_lt h1 h2 hk)
  refine bits_ext a1 (fixB_nice (by omega)) (by rw [fixB_len]; omega) fun j => ?_
  rw [a4, Bool.eq_iff_iff, decide_eq_true_eq, sgn, bitsFrom_mem]
  constructor
  · exact fun h => h.2
  · intro h
    refine ⟨⟨Nat.zero_le _, ?_⟩, h⟩
    have := bitsOk_lt (fixB_ok h1 h2 hk) h
    omega
theorem sgn_list (n k : Nat) : bitsList (fixB (bitsSize (n : Int)).toNat k) = castL (sgn n k) := by
  unfold bitsList sgn castL
  rw [fixB_len]
theorem sgn_num {n : Nat} (h1 : 1 ≤ n) (h2 : n ≤ 10) {x : List Nat} (hp : x.Pairwise (· < ·)) (hx : ∀ i ∈ x, i < n) : sgn n (numOf x) = x := by
  have := bitsFrom_of h1 h2 hx hp
  unfold sgn
  rw [← fixB_of h1 h2 hx] at this
  rw [fixB_len] at this
  exact this
theorem spec_l01Top.ev (w : Nat) (h : w ≤ 2) : Ev (fun k => spec_l01Top.f k (w : Int)) ((256 ^ w : Nat) : Int) := by
  refine ev_step ?_
  simp only [spec_l01Top.f, spec_l01Top.b]
  rw [w64 (by omega) (by omega)]
  refine ev_pos (by omega) (ev_some ?_)
  match w, h with
  | 0, _ => decide
  | 1, _ => decide
  | 2, _ => decide
theorem spec_PutFix.ev0 (s : Nat) (hs : s ≤ 2) : ∀ (d i k : Nat) (acc : List Int) (z : Bool), i + d = s → acc.length + d ≤ 10 → k < 70000 → (d = 0 → z = false) → Ev (fun n => spec_PutFix.l0 n (k : Int) (s : Int) z acc (i : Int)) (false, acc ++ fixB d k, true) := by
  intro d
  induction d with
  | zero =>
    intro i k acc z hi ha hk hz
    refine ev_step ?_
    simp only [spec_PutFix.l0, spec_PutFix.l0b]
    refine ev_neg (by omega) (ev_some ?_)
    rw [hz rfl, fixB, List.append_nil]
  | succ d ih =>
    intro i k acc z hi ha hk hz
    have e1 : wrap64 (Int.tdiv (k : Int) 256) = ((k / 256 : Nat) : Int) := by rw [show (256 : Int) = ((256 : Nat) : Int) by rfl, tdiv_nat, w64n (by omega)]
    have e2 : Int.tmod (k : Int) 256 % 256 = ((k % 256 : Nat) : Int) := by
      have : Int.tmod (k : Int) 256 = (k : Int) % 256 := Int.tmod_eq_emod_of_nonneg (by omega)
      rw [this]; omega
    have i2 := ih (i + 1) (k / 256) (acc ++ [((k % 256 : Nat) : Int)]) false (by omega) (by simp; omega) (by omega) (fun _ => rfl)
    refine ev_step ?_
    simp only [spec_PutFix.l0, spec_PutFix.l0b, e1, e2, succ_nat i (by omega)]
    refine ev_pos (by omega) (ev_pos (by omega) (ev_to i2 ?_))
    rw [fixB]
    simp
theorem spec_PutFix.ev (s k : Nat) (h1 : 1 ≤ s) (h2 : s ≤ 2) (hk : k < 256 ^ s) : Ev (fun n => spec_PutFix.f n true [] (k : Int) (s : Int)) (false, fixB s k, true) := by
  have hp : 256 ^ s ≤ 256 ^ 2 := Nat.pow_le_pow_right (by decide) h2
  refine ev_step ?_
  simp only [spec_PutFix.f, spec_PutFix.b]
  refine Ev.bind (spec_l01In.ev _ _ _) (ev_neg (by simp; omega) (ev_neg (by omega) (Ev.bind (spec_l01Top.ev s h2) (ev_neg (by omega) (Ev.bind (spec_l01Copy.ev true [] (by simp)) ?_)))))
  have := spec_PutFix.ev0 s h2 s 0 k [] false (by omega) (by simp; omega) (by omega) (fun h => by omega)
  rw [List.nil_append] at this
  exact this
theorem spec_l21Less.ev (y z : Bool) (a b : List Nat) (ha : a.length ≤ 1048576) (hb : b.length ≤ 1048576) : Ev (fun k => spec_l21Less.f k y (castL a) z (castL b)) (lessL a b) := by
  have la := castL_len a
  have lb := castL_len b
  refine ev_step ?_
  simp only [spec_l21Less.f, spec_l21Less.b]
  unfold lessL
  refine ev_ite (fun q => ev_some ?_) (fun q => ?_)
  · have q : ¬ a.length = b.length := fun e => by simp [la, lb, e] at q
    rw [decide_eq_false q, Bool.false_and, Bool.or_false, la, lb, Bool.eq_iff_iff]
    simp
  · have q : a.length = b.length := by simp [la, lb] at q; omega
    rw [decide_eq_true q, Bool.true_and, decide_eq_false (by omega : ¬ a.length < b.length), Bool.false_or]
    have key : ∀ (d n : Nat), n + d = a.length → Ev (fun k => spec_l21Less.l0 k y (castL a) z (castL b) ((castL a).length : Int) (n : Int)) (lexLt (a.drop n) (b.drop n)) := by
      intro d
      induction d with
      | zero =>
        intro n hn
        refine ev_step ?_
        simp only [spec_l21Less.l0, spec_l21Less.l0b]
        refine ev_neg (by omega) (ev_some ?_)
        rw [List.drop_of_length_le (by omega)]
        rfl
      | succ d ih =>
        intro n hn
        have h1 : n < a.length := by omega
        have h2 : n < b.length := by omega
        have i2 := ih (n + 1) (by omega)
        rw [List.drop_eq_getElem_cons h1, List.drop_eq_getElem_cons h2]
        refine ev_step ?_
        simp only [spec_l21Less.l0, spec_l21Less.l0b, castL_rd h1, castL_rd h2, succ_nat n (by omega), lexLt]
        refine ev_pos (by omega) (ev_pos (by omega) (ev_pos (by omega) (ev_pos (by omega) (ev_pos (by omega) (ev_ite (fun c => ev_pos (by omega) (ev_pos (by omega) (ev_pos (by omega) (ev_pos (by omega) (ev_some ?_))))) (fun c => ?_))))))
        · have c : ¬ a[n] = b[n] := fun e => by simp [e] at c
          rw [decide_eq_false c, Bool.false_and, Bool.or_false, Bool.eq_iff_iff]
          simp
        · have c : a[n] = b[n] := by simp at c; omega
          rw [decide_eq_true c, decide_eq_false (by omega : ¬ a[n] < b[n]), Bool.true_and, Bool.false_or]
          exact i2
    exact key a.length 0 (by omega)
def SpecI (l : List Row) (k : Nat) (best : List Int) : Prop :=
  (best = [] ∧ ∀ j, j < k → qu l (sgn l.length j) = false) ∨
  (∃ j, j < k ∧ best = fixB (bitsSize (l.length : Int)).toNat j ∧ qu l (sgn l.length j) = true ∧ ∀ i, i < k → qu l (sgn l.length i) = true → lessL (sgn l.length i) (sgn l.length j) = false)
theorem sgn_len (n k : Nat) (h1 : 1 ≤ n) (h2 : n ≤ 10) : (sgn n k).length ≤ 1048576 := by
  have z := bitsSize_bd h1 h2
  have := bitsFrom_length (fixB (bitsSize (n : Int)).toNat k) (8 * (bitsSize (n : Int)).toNat) 0
  unfold sgn
  omega
theorem spec_Least.ev0 (z : Bool) (l : List Row) (h : l.length ≤ 1048576) (T : tabOk l = true) : ∀ (d k : Nat) (best : List Int), k + d = 2 ^ l.length → SpecI l k best → ∃ r, Ev (fun f => spec_Least.l0 f false best (l.length : Int) (k : Int) z (l.map Row.t)) (false, r) ∧ SpecI l (2 ^ l.length) r := by
  obtain ⟨_, h1, h2⟩ := tabOk_iff.1 T
  have hp : 2 ^ l.length ≤ 2 ^ 10 := Nat.pow_le_pow_right (by decide) h2
  have zb := bitsSize_bd h1 h2
  have sh : shlI .i64 1 (l.length : Int) = ((2 ^ l.length : Nat) : Int) := by
    generalize l.length = n at h1 h2
    match n, h1, h2 with
    | 1, _, _ => decide
    | 2, _, _ => decide
    | 3, _, _ => decide
    | 4, _, _ => decide
    | 5, _, _ => decide
    | 6, _, _ => decide
    | 7, _, _ => decide
    | 8, _, _ => decide
    | 9, _, _ => decide
    | 10, _, _ => decide
    | n + 11, _, h => omega
  intro d
  induction d with
  | zero =>
    intro k best hk hI
    refine ⟨best, ev_step ?_, by rw [show 2 ^ l.length = k by omega]; exact hI⟩
    simp only [spec_Least.l0, spec_Least.l0b]
    rw [sh]
    exact ev_pos (by omega) (ev_neg (by omega) (ev_some rfl))
  | succ d ih =>
    intro k best hk hI
    have hk2 : k < 2 ^ l.length := by omega
    have hk3 : k < 256 ^ (bitsSize (l.length : Int)).toNat := by
      refine Nat.lt_of_lt_of_le hk2 ?_
      rw [show (256 : Nat) = 2 ^ 8 by rfl, ← Nat.pow_mul]
      exact Nat.pow_le_pow_right (by decide) (by omega)
    have P := spec_PutFix.ev (bitsSize (l.length : Int)).toNat k (by omega) (by omega) hk3
    rw [show (((bitsSize (l.length : Int)).toNat : Nat) : Int) = bitsSize (l.length : Int) by omega] at P
    have nb : niceB (fixB (bitsSize (l.length : Int)).toNat k) := fixB_nice (by omega)
    have Q := spec_IsQuorum.ev z false l (fixB (bitsSize (l.length : Int)).toNat k) h nb
    have eq : isQuorum l (fixB (bitsSize (l.length : Int)).toNat k) = qu l (sgn l.length k) := by unfold qu; rw [sgn_of h1 h2 hk2]
    rw [eq] at Q
    have S := spec_BitsSize.ev (l.length : Int) ⟨by omega, by omega⟩
    have go : ∀ best', SpecI l (k + 1) best' → ∃ r, Ev (fun f => spec_Least.l0 f false best' (l.length : Int) ((k + 1 : Nat) : Int) z (l.map Row.t)) (false, r) ∧ SpecI l (2 ^ l.length) r := fun b' hb => ih (k + 1) b' (by omega) hb
    have ff : (fixB (bitsSize (l.length : Int)).toNat k).length ≠ 0 := by rw [fixB_len]; omega
    cases cq : qu l (sgn l.length k) with
    | false =>
      obtain ⟨r, e, q⟩ := go best (by
        rcases hI with ⟨rfl, hn⟩ | ⟨j, hj, hb, hq, hm⟩
        · refine .inl ⟨rfl, fun j hj => ?_⟩
          by_cases c : j = k
          · subst c; exact cq
          · exact hn j (by omega)
        · refine .inr ⟨j, by omega, hb, hq, fun i hi hqi => ?_⟩
          by_cases c : i = k
          · subst c; rw [cq] at hqi; cases hqi
          · exact hm i (by omega) hqi)
      refine ⟨r, ev_step ?_, q⟩
      simp only [spec_Least.l0, spec_Least.l0b, succ_nat k (by omega)]
      rw [sh]
      exact ev_pos (by omega) (ev_pos (by omega) (Ev.bind S (Ev.bind P (Ev.bind Q (ev_neg (by rw [cq]; simp) e)))))
    | true =>
      rcases hI with ⟨rfl, hn⟩ | ⟨j, hj, rfl, hq, hm⟩
      · obtain ⟨r, e, q⟩ := go (fixB (bitsSize (l.length : Int)).toNat k) (.inr ⟨k, by omega, rfl, cq, fun i hi hqi => by
          by_cases c : i = k
          · subst c
            simp only [lessL, Bool.or_eq_false_iff, decide_eq_false_iff_not, Bool.and_eq_false_imp, decide_eq_true_eq]
            refine ⟨by omega, fun _ => ?_⟩
            have : ∀ x : List Nat, lexLt x x = false := fun x => by
              induction x with
              | nil => rfl
              | cons a x ih => simp [lexLt, ih]
            exact this _
          · rw [hn i (by omega)] at hqi; cases hqi⟩)
        refine ⟨r, ev_step ?_, q⟩
        simp only [spec_Least.l0, spec_Least.l0b, succ_nat k (by omega)]
        rw [sh]
        exact ev_pos (by omega) (ev_pos (by omega) (Ev.bind S (Ev.bind P (Ev.bind Q (ev_pos cq (ev_pos rfl e))))))
      · have hjn : j < 2 ^ l.length := by omega
        have nj : niceB (fixB (bitsSize (l.length : Int)).toNat j) := fixB_nice (by omega)
        have fj : (fixB (bitsSize (l.length : Int)).toNat j).length ≠ 0 := by rw [fixB_len]; omega
        have B1 := spec_BitsList.ev false _ nb
        have B2 := spec_BitsList.ev false _ nj
        rw [sgn_list] at B1 B2
        have L := spec_l21Less.ev false false (sgn l.length k) (sgn l.length j) (sgn_len _ _ h1 h2) (sgn_len _ _ h1 h2)
        cases cl : lessL (sgn l.length k) (sgn l.length j) with
        | true =>
          obtain ⟨r, e, q⟩ := go (fixB (bitsSize (l.length : Int)).toNat k) (.inr ⟨k, by omega, rfl, cq, fun i hi hqi => by
            by_cases c : i = k
            · subst c
              cases hh : lessL (sgn l.length i) (sgn l.length i) with
              | false => rfl
              | true =>
                have h3 := hm j hj hq
                simp only [lessL, Bool.or_eq_true, decide_eq_true_eq, Bool.and_eq_true] at hh
                rcases hh with hh | ⟨_, hh⟩
                · omega
                · have : ∀ x : List Nat, lexLt x x = false := fun x => by
                    induction x with
                    | nil => rfl
                    | cons a x ih => simp [lexLt, ih]
                  rw [this] at hh; cases hh
            · cases hh : lessL (sgn l.length i) (sgn l.length k) with
              | false => rfl
              | true =>
                have h3 := hm i (by omega) hqi
                rw [less_trans hh cl] at h3
                cases h3⟩)
          refine ⟨r, ev_step ?_, q⟩
          simp only [spec_Least.l0, spec_Least.l0b, succ_nat k (by omega)]
          rw [sh]
          exact ev_pos (by omega) (ev_pos (by omega) (Ev.bind S (Ev.bind P (Ev.bind Q (ev_pos cq (ev_neg (by omega) (Ev.bind B1 (Ev.bind B2 (Ev.bind L (ev_pos cl e))))))))))
        | false =>
          obtain ⟨r, e, q⟩ := go (fixB (bitsSize (l.length : Int)).toNat j) (.inr ⟨j, by omega, rfl, hq, fun i hi hqi => by
            by_cases c : i = k
            · subst c; exact cl
            · exact hm i (by omega) hqi⟩)
          refine ⟨r, ev_step ?_, q⟩
          simp only [spec_Least.l0, spec_Least.l0b, succ_nat k (by omega)]
          rw [sh]
          exact ev_pos (by omega) (ev_pos (by omega) (Ev.bind S (Ev.bind P (Ev.bind Q (ev_pos cq (ev_neg (by omega) (Ev.bind B1 (Ev.bind B2 (Ev.bind L (ev_neg (by rw [cl]; simp) e))))))))))
theorem spec_Least.ev (z : Bool) (l : List Row) (h : l.length ≤ 1048576) : ∃ r, Ev (fun k => spec_Least.f k z (l.map Row.t)) r ∧ ((tabOk l = false ∧ r = (true, [])) ∨ (tabOk l = true ∧ ∃ x, Least l x ∧ r = (false, bitsOf l.length x))) := by
  cases T : tabOk l with
  | false =>
    refine ⟨(true, []), ev_step ?_, .inl ⟨rfl, rfl⟩⟩
    simp only [spec_Least.f, spec_Least.b]
    exact Ev.bind (spec_TableOk.ev _ _ h) (ev_pos (by rw [T]; simp) (ev_some rfl))
  | true =>
    obtain ⟨_, h1, h2⟩ := tabOk_iff.1 T
    obtain ⟨r, e, q⟩ := spec_Least.ev0 z l h T (2 ^ l.length) 0 [] (by omega) (.inl ⟨rfl, fun j hj => by omega⟩)
    have all : ∀ y : List Nat, y.Pairwise (· < ·) → (∀ i ∈ y, i < l.length) → numOf y < 2 ^ l.length ∧ sgn l.length (numOf y) = y := fun y hp hy => ⟨numOf_lt hy, sgn_num h1 h2 hp hy⟩
    rcases q with ⟨rfl, hn⟩ | ⟨j, hj, rfl, hq, hm⟩
    · exfalso
      obtain ⟨a1, a2⟩ := all (List.range l.length) List.pairwise_lt_range (fun i hi => by simpa using hi)
      have := hn _ a1
      rw [a2, qu_full T] at this
      cases this
    · refine ⟨_, ev_step ?_, .inr ⟨rfl, sgn l.length j, ⟨⟨sgn_sorted _ _, sgn_lt h1 h2 hj⟩, hq, fun y hp hy hqy => ?_⟩, by rw [sgn_of h1 h2 hj]⟩⟩
      · simp only [spec_Least.f, spec_Least.b, List.length_map]
        exact Ev.bind (spec_TableOk.ev _ _ h) (ev_neg (by rw [T]; simp) e)
      · obtain ⟨a1, a2⟩ := all y hp hy
        have := hm _ a1 (by rw [a2]; exact hqy)
        rwa [a2] at this
theorem laws_FnExactLeast.top (x0 : Sl Row) (g0 : Tab.good x0) : Ev (fun k => laws_FnExactLeast.f k x0.z (x0.l.map Row.t)) true := by
  refine ev_step ?_
  simp only [laws_FnExactLeast.f, laws_FnExactLeast.b]
  obtain ⟨r, e1, s⟩ := laws_szTable.ev x0.z x0.l (fit_rows g0) 1048576 (by omega) (by omega)
  rcases s with rfl | ⟨s1, s2, few⟩
  · exact Ev.bind e1 (ev_pos (by omega) (ev_some rfl))
  refine Ev.bind e1 (ev_neg (by omega) ?_)
  have few2 := few_cp few
  have T := laws_toTable.ev x0.z x0.l few
  obtain ⟨u, S, su⟩ := spec_Least.ev false (x0.l.map Row.cp) few2.1
  obtain ⟨v, I, sv⟩ := impl_Least.ev false (x0.l.map Row.cp) few2.1
  have uv : u = v := by
    rcases su with ⟨t1, rfl⟩ | ⟨t1, x, lx, rfl⟩ <;> rcases sv with ⟨t2, rfl⟩ | ⟨t2, y, ly, rfl⟩
    · rfl
    · rw [t1] at t2; cases t2
    · rw [t1] at t2; cases t2
    · rw [least_uniq lx ly]
  subst uv
  have ob : okB u.2 := by
    rcases su with ⟨t1, rfl⟩ | ⟨t1, x, lx, rfl⟩
    · simp [okB]
    · obtain ⟨_, h1, h2⟩ := tabOk_iff.1 t1
      exact (bitsOf_spec h1 h2 lx.1.2).1.1
  have ob' : u.2.length ≤ 1048576 := ob
  obtain ⟨p, mt, p1, p2⟩ := laws_markTable.ev false _ few2 1 (by omega) (by omega)
  have Q := laws_eqByteS.ev u.1 u.1 u.2 ob
  have M := laws_markByteS.ev u.1 u.2 ob 1 ⟨by omega, by omega⟩
  have H := laws_heldByteS.ev u.1 u.2.length ob' 1 ⟨by omega, by omega⟩
  exact Ev.bind T (Ev.bind S (Ev.bind T (Ev.bind I (Ev.bind Q (ev_neg (by simp) (Ev.bind T (Ev.bind (laws_eqTable.ev _ _ _ few2) (ev_neg (by simp) (Ev.bind mt (ev_neg (by omega) (Ev.bind Q (ev_neg (by simp) (Ev.bind M (Ev.bind H (ev_neg (by omega) (ev_neg (by simp) (Ev.bind T (Ev.bind I (Ev.bind Q (ev_neg (by simp) (Ev.bind H (ev_neg (by omega) (ev_neg (by simp) (ev_some rfl))))))))))))))))))))))))
end Go.Proofs.YtadnejogdohfkaaG
