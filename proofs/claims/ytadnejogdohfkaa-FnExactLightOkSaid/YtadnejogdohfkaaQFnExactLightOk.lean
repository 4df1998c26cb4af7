/- What the printed forms answer, over numbers and lists alone. Each lemma names its conditions. -/
import Derived.Test.YtadnejogdohfkaaGFnExactLightOkd
namespace Go.Proofs.YtadnejogdohfkaaG
open Go Go.Proofs.YtadnejogdohfkaaRv Go.RowKit
set_option linter.unusedVariables false
set_option linter.unusedSimpArgs false


theorem impl_within.ev (a b c : Int) : Ev (fun k => impl_within.f k a b c) (decide (b ≤ a ∧ a ≤ c)) := by
  refine ev_step ?_
  simp only [impl_within.f, impl_within.b]
  exact ev_ite (fun h => ev_some (by simp [h])) (fun h => ev_some (by simp [h]))
theorem spec_l01In.ev (a b c : Int) : Ev (fun k => spec_l01In.f k a b c) (decide (b ≤ a ∧ a ≤ c)) := by
  refine ev_step ?_
  simp only [spec_l01In.f, spec_l01In.b]
  exact ev_ite (fun h => ev_some (by simp [show b ≤ a from h])) (fun h => ev_some (by simp [show ¬ b ≤ a from h]))
theorem impl_isNum.ev (a : Int) : Ev (fun k => impl_isNum.f k a) (isNum a) := by
  refine ev_step ?_
  simp only [impl_isNum.f, impl_isNum.b]
  exact Ev.bind (impl_within.ev _ _ _) (ev_some rfl)
theorem spec_l01Num.ev (a : Int) : Ev (fun k => spec_l01Num.f k a) (isNum a) := by
  refine ev_step ?_
  simp only [spec_l01Num.f, spec_l01Num.b]
  exact Ev.bind (spec_l01In.ev _ _ _) (ev_some rfl)
theorem impl_copyBytes.ev (z : Bool) (l : List Int) (h : l.length ≤ 1073741824) : Ev (fun k => impl_copyBytes.f k z l) (false, l) := by
  refine ev_step ?_
  simp only [impl_copyBytes.f, impl_copyBytes.b]
  exact ev_pos (by omega) (ev_some (by simp))


structure Row where
  f0 : Int
  z : Bool
  f1 : List Int
instance : Inhabited Row := ⟨⟨0, false, []⟩⟩
def Row.t (r : Row) : T := .agg [.int .i64 r.f0, .nums 5 .u8 r.z r.f1]
theorem row_at {l : List Row} {i : Nat} (h : i < l.length) : (l.map Row.t).getD i .bad = (l[i]).t := by simp [List.getD_eq_getElem?_getD, h]
theorem Row.c0 (r : Row) : (r.t.cells.getD 0 .bad).toInt = r.f0 := rfl
theorem Row.c1z (r : Row) : (r.t.cells.getD 1 .bad).isNil = r.z := rfl
theorem Row.c1 (r : Row) : (r.t.cells.getD 1 .bad).toNums = r.f1 := rfl

def rowOk (r : Row) : Bool := decide (1 ≤ r.f0 ∧ r.f0 ≤ 1099511627776) && decide (1 ≤ r.f1.length ∧ r.f1.length ≤ 64)
def tabOk (l : List Row) : Bool := l.all rowOk && decide (1 ≤ l.length ∧ l.length ≤ 10)
theorem impl_TableOk.ev0 (z : Bool) (l : List Row) (h : l.length ≤ 1048576) : ∀ (d n : Nat), n + d = l.length → Ev (fun k => impl_TableOk.l0 k z (l.map Row.t) (l.length : Int) (n : Int) z (l.map Row.t)) ((l.drop n).all rowOk && decide (1 ≤ l.length ∧ l.length ≤ 10))
  | 0, n, hn => by
    refine ev_step ?_
    simp only [impl_TableOk.l0, impl_TableOk.l0b]
    refine ev_neg (by omega) (Ev.bind (impl_within.ev _ _ _) (ev_some ?_))
    rw [List.drop_of_length_le (by omega), List.length_map]
    have e : (1 ≤ (l.length : Int) ∧ (l.length : Int) ≤ 10) ↔ (1 ≤ l.length ∧ l.length ≤ 10) := by omega
    simp [e]
  | d + 1, n, hn => by
    have hlt : n < l.length := by omega
    refine ev_step ?_
    simp only [impl_TableOk.l0, impl_TableOk.l0b, Int.toNat_natCast, row_at hlt, Row.c0, Row.c1, List.length_map]
    refine ev_pos (by omega) (ev_pos (by omega) (ev_pos (by omega) (Ev.bind (impl_within.ev _ _ _) ?_)))
    rw [List.drop_eq_getElem_cons hlt, List.all_cons]
    refine ev_ite (fun c1 => ev_some ?_) (fun c1 => Ev.bind (impl_within.ev _ _ _) (ev_ite (fun c2 => ev_some ?_) (fun c2 => ?_)))
    · simp at c1
      have : ¬ (1 ≤ (l[n]).f0 ∧ (l[n]).f0 ≤ 1099511627776) := by omega
      simp [rowOk, this]
    · simp at c2
      have : ¬ (1 ≤ (l[n]).f1.length ∧ (l[n]).f1.length ≤ 64) := by omega
      simp [rowOk, this]
    · rw [w64s (by omega)]
      have ih := impl_TableOk.ev0 z l h d (n + 1) (by omega)
      refine ev_to ih ?_
      simp at c1 c2
      have c3 : 1 ≤ (l[n]).f1.length ∧ (l[n]).f1.length ≤ 64 := by omega
      simp [rowOk, c1, c3]
theorem impl_TableOk.ev (z : Bool) (l : List Row) (h : l.length ≤ 1048576) : Ev (fun k => impl_TableOk.f k z (l.map Row.t)) (tabOk l) := by
  refine ev_step ?_
  simp only [impl_TableOk.f, impl_TableOk.b, List.length_map]
  exact ev_to (impl_TableOk.ev0 z l h l.length 0 (by omega)) (by simp [tabOk])
theorem spec_l02Signers.ev (a : Int) : Ev (fun k => spec_l02Signers.f k a) (decide (1 ≤ a ∧ a ≤ 10)) := by
  refine ev_step ?_
  simp only [spec_l02Signers.f, spec_l02Signers.b]
  exact Ev.bind (spec_l01In.ev _ _ _) (ev_some rfl)
theorem spec_TableOk.ev0 (z : Bool) (l : List Row) (h : l.length ≤ 1048576) : ∀ (d n : Nat), n + d = l.length → Ev (fun k => spec_TableOk.l0 k z (l.map Row.t) (l.length : Int) (n : Int) z (l.map Row.t)) ((l.drop n).all rowOk && decide (1 ≤ l.length ∧ l.length ≤ 10))
  | 0, n, hn => by
    refine ev_step ?_
    simp only [spec_TableOk.l0, spec_TableOk.l0b]
    refine ev_neg (by omega) (Ev.bind (spec_l02Signers.ev _) (ev_some ?_))
    rw [List.drop_of_length_le (by omega), List.length_map]
    have e : (1 ≤ (l.length : Int) ∧ (l.length : Int) ≤ 10) ↔ (1 ≤ l.length ∧ l.length ≤ 10) := by omega
    simp [e]
  | d + 1, n, hn => by
    have hlt : n < l.length := by omega
    refine ev_step ?_
    simp only [spec_TableOk.l0, spec_TableOk.l0b, Int.toNat_natCast, row_at hlt, Row.c0, Row.c1, List.length_map]
    refine ev_pos (by omega) (ev_pos (by omega) (ev_pos (by omega) (Ev.bind (spec_l01In.ev _ _ _) ?_)))
    rw [List.drop_eq_getElem_cons hlt, List.all_cons]
    refine ev_ite (fun c1 => ev_some ?_) (fun c1 => Ev.bind (spec_l01In.ev _ _ _) (ev_ite (fun c2 => ev_some ?_) (fun c2 => ?_)))
    · simp at c1
      have : ¬ (1 ≤ (l[n]).f0 ∧ (l[n]).f0 ≤ 1099511627776) := by omega
      simp [rowOk, this]
    · simp at c2
      have : ¬ (1 ≤ (l[n]).f1.length ∧ (l[n]).f1.length ≤ 64) := by omega
      simp [rowOk, this]
    · rw [w64s (by omega)]
      have ih := spec_TableOk.ev0 z l h d (n + 1) (by omega)
      refine ev_to ih ?_
      simp at c1 c2
      have c3 : 1 ≤ (l[n]).f1.length ∧ (l[n]).f1.length ≤ 64 := by omega
      simp [rowOk, c1, c3]
theorem spec_TableOk.ev (z : Bool) (l : List Row) (h : l.length ≤ 1048576) : Ev (fun k => spec_TableOk.f k z (l.map Row.t)) (tabOk l) := by
  refine ev_step ?_
  simp only [spec_TableOk.f, spec_TableOk.b, List.length_map]
  exact ev_to (spec_TableOk.ev0 z l h l.length 0 (by omega)) (by simp [tabOk])
theorem impl_SameBytes.ev (y z : Bool) (a b : List Int) : Ev (fun k => impl_SameBytes.f k y a z b) (sameB a b) := by
  refine ev_step ?_
  simp only [impl_SameBytes.f, impl_SameBytes.b]
  exact ev_some rfl
theorem spec_SameBytes.ev (y z : Bool) (a b : List Int) : Ev (fun k => spec_SameBytes.f k y a z b) (sameB a b) := by
  refine ev_step ?_
  simp only [spec_SameBytes.f, spec_SameBytes.b]
  exact ev_some rfl
end Go.Proofs.YtadnejogdohfkaaG
namespace Go.Proofs.YtadnejogdohfkaaG
open Go Go.Proofs.YtadnejogdohfkaaRv Go.RowKit
set_option linter.unusedVariables false
set_option linter.unusedSimpArgs false


theorem impl_isWord.ev (x : Int) : Ev (fun k => impl_isWord.f k x) (decide (0 ≤ x ∧ x ≤ 4294967295)) := by
  refine ev_step ?_
  simp only [impl_isWord.f, impl_isWord.b]
  exact Ev.bind (impl_within.ev _ _ _) (ev_some rfl)

theorem rdI_nat {l : List Int} {n : Nat} (h : n < l.length) : rdI l (n : Int) = l[n] := by simp [rdI, h]
def bytesOk (b : List Int) : Prop := ∀ x ∈ b, 0 ≤ x ∧ x < 256

end Go.Proofs.YtadnejogdohfkaaG
namespace Go.Proofs.YtadnejogdohfkaaG
open Go Go.Proofs.YtadnejogdohfkaaRv Go.RowKit
set_option linter.unusedVariables false
set_option linter.unusedSimpArgs false

section
variable (y0 y1 y2 : Bool) (h b : List Int)



end
end Go.Proofs.YtadnejogdohfkaaG
namespace Go.Proofs.YtadnejogdohfkaaG
open Go Go.Proofs.YtadnejogdohfkaaRv Go.RowKit
set_option linter.unusedVariables false
set_option linter.unusedSimpArgs false


section
variable (z : Bool) (l : List Int)
end


theorem succ_nat (i : Nat) (h : i ≤ 1000000000) : wrap64 ((i : Int) + 1) = ((i + 1 : Nat) : Int) := by unfold wrap64; omega

end Go.Proofs.YtadnejogdohfkaaG
namespace Go.Proofs.YtadnejogdohfkaaG
open Go Go.Proofs.YtadnejogdohfkaaRv Go.RowKit
set_option linter.unusedVariables false
set_option linter.unusedSimpArgs false


def Row.ok (r : Row) : Prop := r.f1.length ≤ 1048576 ∧ bytesOk r.f1
def Rows (l : List Row) : Prop := l.length ≤ 1048576 ∧ ∀ r ∈ l, r.ok
theorem laws_szByteS.ev (z : Bool) (l : List Int) (h : l.length ≤ 9223372036854775807) (a : Int) (h0 : 0 ≤ a) (h1 : a ≤ 1048576) : ∃ r, Ev (fun k => laws_szByteS.f k z l a) r ∧ SzR (okB l) a r := by
  have e : wrap64 (a - (l.length : Int)) = a - (l.length : Int) := w64 (by omega) (by omega)
  by_cases c : (l.length : Int) ≤ a
  · refine ⟨a - l.length, ev_step ?_, Or.inr ⟨by omega, by omega, by unfold okB; omega⟩⟩
    simp only [laws_szByteS.f, laws_szByteS.b, e]
    clear e
    exact ev_neg (by omega) (ev_some rfl)
  · refine ⟨-1, ev_step ?_, Or.inl rfl⟩
    simp only [laws_szByteS.f, laws_szByteS.b, e]
    clear e
    exact ev_pos (by omega) (ev_some rfl)
def Row.fit (r : Row) : Prop := r.f1.length ≤ 9223372036854775807
theorem laws_szRow.ev (r : Row) (h : r.fit) (a : Int) (h0 : 0 ≤ a) (h1 : a ≤ 1048576) : ∃ q, Ev (fun k => laws_szRow.f k r.f0 r.z r.f1 a) q ∧ SzR (okB r.f1) a q := by
  obtain ⟨q, e, s⟩ := laws_szByteS.ev r.z r.f1 h a h0 h1
  rcases s with rfl | ⟨s1, s2, s3⟩
  · refine ⟨-1, ev_step ?_, Or.inl rfl⟩
    simp only [laws_szRow.f, laws_szRow.b]
    exact Ev.bind e (ev_pos (by omega) (ev_some rfl))
  · refine ⟨q, ev_step ?_, Or.inr ⟨s1, s2, s3⟩⟩
    simp only [laws_szRow.f, laws_szRow.b]
    exact Ev.bind e (ev_neg (by omega) (ev_some rfl))
theorem laws_szRowS.ev0 (z : Bool) (l : List Row) (hl : l.length ≤ 1048576) (h : ∀ r ∈ l, r.fit) : ∀ (d n : Nat) (a : Int), n + d = l.length → 0 ≤ a → a ≤ 1048576 → ∃ q, Ev (fun k => laws_szRowS.l0 k z (l.map Row.t) a (n : Int)) q ∧ SzR (∀ r ∈ l.drop n, okB r.f1) a q
  | 0, n, a, hn, h0, h1 => by
    refine ⟨a, ev_step ?_, Or.inr ⟨h0, by omega, fun r hr => ?_⟩⟩
    · simp only [laws_szRowS.l0, laws_szRowS.l0b, List.length_map]
      exact ev_neg (by omega) (ev_some rfl)
    · rw [List.drop_of_length_le (by omega)] at hr; cases hr
  | d + 1, n, a, hn, h0, h1 => by
    have hlt : n < l.length := by omega
    obtain ⟨q, e, s⟩ := laws_szRow.ev l[n] (h _ (List.getElem_mem hlt)) a h0 h1
    rcases s with rfl | ⟨s1, s2, s3⟩
    · refine ⟨-1, ev_step ?_, Or.inl rfl⟩
      simp only [laws_szRowS.l0, laws_szRowS.l0b, List.length_map, Int.toNat_natCast, row_at hlt, Row.c0, Row.c1, Row.c1z]
      exact ev_pos (by omega) (ev_pos (by omega) (ev_pos (by omega) (Ev.bind e (ev_pos (by omega) (ev_some rfl)))))
    · obtain ⟨p, e2, s'⟩ := laws_szRowS.ev0 z l hl h d (n + 1) q (by omega) s1 (by omega)
      refine ⟨p, ev_step ?_, ?_⟩
      · simp only [laws_szRowS.l0, laws_szRowS.l0b, List.length_map, Int.toNat_natCast, row_at hlt, Row.c0, Row.c1, Row.c1z, succ_nat n (by omega)]
        exact ev_pos (by omega) (ev_pos (by omega) (ev_pos (by omega) (Ev.bind e (ev_neg (by omega) e2))))
      · rcases s' with rfl | ⟨t1, t2, t3⟩
        · exact Or.inl rfl
        · refine Or.inr ⟨t1, by omega, fun r hr => ?_⟩
          rw [List.drop_eq_getElem_cons hlt] at hr
          rcases List.mem_cons.1 hr with rfl | hr
          · exact s3
          · exact t3 r hr
def Fit (l : List Row) : Prop := l.length ≤ 9223372036854775807 ∧ ∀ r ∈ l, r.fit
def Few (l : List Row) : Prop := l.length ≤ 1048576 ∧ ∀ r ∈ l, okB r.f1
theorem laws_szRowS.ev (z : Bool) (l : List Row) (h : Fit l) (a : Int) (h0 : 0 ≤ a) (h1 : a ≤ 1048576) : ∃ q, Ev (fun k => laws_szRowS.f k z (l.map Row.t) a) q ∧ SzR (Few l) a q := by
  have hl := h.1
  have e : wrap64 (a - (l.length : Int)) = a - (l.length : Int) := w64 (by omega) (by omega)
  by_cases c : (l.length : Int) ≤ a
  · obtain ⟨q, e2, s⟩ := laws_szRowS.ev0 z l (by clear e; omega) h.2 l.length 0 (a - l.length) (by omega) (by clear e; omega) (by clear e; omega)
    refine ⟨q, ev_step ?_, ?_⟩
    · simp only [laws_szRowS.f, laws_szRowS.b, List.length_map, e]
      clear e
      exact ev_neg (by omega) e2
    · clear e
      rcases s with rfl | ⟨t1, t2, t3⟩
      · exact Or.inl rfl
      · exact Or.inr ⟨t1, by omega, by omega, t3⟩
  · refine ⟨-1, ev_step ?_, Or.inl rfl⟩
    simp only [laws_szRowS.f, laws_szRowS.b, List.length_map, e]
    clear e
    exact ev_pos (by omega) (ev_some rfl)
theorem laws_szTable.ev (z : Bool) (l : List Row) (h : Fit l) (a : Int) (h0 : 0 ≤ a) (h1 : a ≤ 1048576) : ∃ q, Ev (fun k => laws_szTable.f k z (l.map Row.t) a) q ∧ SzR (Few l) a q := by
  obtain ⟨q, e, s⟩ := laws_szRowS.ev z l h a h0 h1
  rcases s with rfl | ⟨s1, s2, s3⟩
  · refine ⟨-1, ev_step ?_, Or.inl rfl⟩
    simp only [laws_szTable.f, laws_szTable.b]
    exact Ev.bind e (ev_pos (by omega) (ev_some rfl))
  · refine ⟨q, ev_step ?_, Or.inr ⟨s1, s2, s3⟩⟩
    simp only [laws_szTable.f, laws_szTable.b]
    exact Ev.bind e (ev_neg (by omega) (ev_some rfl))

theorem laws_toByteS.ev (z : Bool) (l : List Int) (h : okB l) : Ev (fun k => laws_toByteS.f k z l) (false, l) := by
  have hl : l.length ≤ 1048576 := h
  refine ev_step ?_
  simp only [laws_toByteS.f, laws_toByteS.b]
  refine ev_pos trivial (ev_pos (by omega) (ev_pos (by omega) ?_))
  have key : ∀ (d n : Nat) (ys : List Int), n + d = l.length → ys.length = l.length → ys.take n = l.take n → Ev (fun k => laws_toByteS.l0 k z l ys (n : Int)) (false, l) := by
    intro d
    induction d with
    | zero =>
      intro n ys hn hy ht
      refine ev_step ?_
      simp only [laws_toByteS.l0, laws_toByteS.l0b]
      refine ev_neg (by omega) (ev_some ?_)
      obtain rfl : n = l.length := by omega
      rw [List.take_length, ← hy, List.take_length] at ht
      rw [ht]
    | succ d ih =>
      intro n ys hn hy ht
      have hlt : n < l.length := by omega
      refine ev_step ?_
      have i2 := ih (n + 1) (ys.set n l[n]) (by omega) (by simp [hy]) (by
        rw [List.take_succ_eq_append_getElem (by simp; omega), List.take_succ_eq_append_getElem hlt, List.take_set_of_le (Nat.le_refl n), ht, List.getElem_set_self])
      simp only [laws_toByteS.l0, laws_toByteS.l0b, rdI_nat hlt, succ_nat n (by omega), Int.toNat_natCast]
      exact ev_pos (by omega) (ev_pos (by omega) (ev_pos (by omega) (ev_pos (by omega) (ev_pos (by omega) i2))))
  exact key l.length 0 _ (by omega) (by simp) (by simp)
def Row.cp (r : Row) : Row := ⟨r.f0, false, r.f1⟩
theorem laws_toRow.ev (r : Row) (h : okB r.f1) : Ev (fun k => laws_toRow.f k r.f0 r.z r.f1) (r.f0, false, r.f1) := by
  refine ev_step ?_
  simp only [laws_toRow.f, laws_toRow.b]
  exact Ev.bind (laws_toByteS.ev r.z r.f1 h) (ev_some rfl)
theorem laws_toRowS.ev (z : Bool) (l : List Row) (h : Few l) : Ev (fun k => laws_toRowS.f k z (l.map Row.t)) (false, (l.map Row.cp).map Row.t) := by
  have hl : l.length ≤ 1048576 := h.1
  refine ev_step ?_
  simp only [laws_toRowS.f, laws_toRowS.b, List.length_map]
  refine ev_pos trivial (ev_pos (by omega) (ev_pos (by omega) ?_))
  have key : ∀ (d n : Nat) (ys : List T), n + d = l.length → ys.length = l.length → ys.take n = ((l.map Row.cp).map Row.t).take n → Ev (fun k => laws_toRowS.l0 k z (l.map Row.t) ys (n : Int)) (false, (l.map Row.cp).map Row.t) := by
    intro d
    induction d with
    | zero =>
      intro n ys hn hy ht
      refine ev_step ?_
      simp only [laws_toRowS.l0, laws_toRowS.l0b, List.length_map]
      refine ev_neg (by omega) (ev_some ?_)
      rw [List.take_of_length_le (by omega), List.take_of_length_le (by simp; omega)] at ht
      rw [ht]
    | succ d ih =>
      intro n ys hn hy ht
      have hlt : n < l.length := by omega
      refine ev_step ?_
      have i2 := ih (n + 1) (ys.set n (l[n].cp).t) (by omega) (by simp [hy]) (by
        rw [List.take_succ_eq_append_getElem (by simp; omega), List.take_succ_eq_append_getElem (by simp; omega), List.take_set_of_le (Nat.le_refl n), ht, List.getElem_set_self]
        simp)
      simp only [laws_toRowS.l0, laws_toRowS.l0b, List.length_map, succ_nat n (by omega), Int.toNat_natCast, row_at hlt, Row.c0, Row.c1, Row.c1z]
      exact ev_pos (by omega) (ev_pos (by omega) (ev_pos (by omega) (Ev.bind (laws_toRow.ev l[n] (h.2 _ (List.getElem_mem hlt))) (ev_pos (by omega) (ev_pos (by omega) i2)))))
  exact key l.length 0 _ (by omega) (by simp) (by simp)
theorem laws_toTable.ev (z : Bool) (l : List Row) (h : Few l) : Ev (fun k => laws_toTable.f k z (l.map Row.t)) (false, (l.map Row.cp).map Row.t) := by
  refine ev_step ?_
  simp only [laws_toTable.f, laws_toTable.b]
  exact Ev.bind (laws_toRowS.ev z l h) (ev_some rfl)

theorem laws_eqByteS.ev (y z : Bool) (l : List Int) (h : okB l) : Ev (fun k => laws_eqByteS.f k y l z l) true := by
  have hl : l.length ≤ 1048576 := h
  refine ev_step ?_
  simp only [laws_eqByteS.f, laws_eqByteS.b]
  refine ev_neg (by simp) ?_
  have key : ∀ (d n : Nat), n + d = l.length → Ev (fun k => laws_eqByteS.l0 k y l z l (n : Int)) true := by
    intro d
    induction d with
    | zero =>
      intro n hn
      refine ev_step ?_
      simp only [laws_eqByteS.l0, laws_eqByteS.l0b]
      exact ev_neg (by omega) (ev_some rfl)
    | succ d ih =>
      intro n hn
      refine ev_step ?_
      simp only [laws_eqByteS.l0, laws_eqByteS.l0b, succ_nat n (by omega)]
      exact ev_pos (by omega) (ev_pos (by omega) (ev_pos (by omega) (ev_pos (by omega) (ev_pos (by omega) (ev_neg (by simp) (ih (n + 1) (by omega)))))))
  exact key l.length 0 (by omega)
theorem laws_eqRow.ev (r : Row) (h : okB r.f1) : Ev (fun k => laws_eqRow.f k r.f0 r.z r.f1 r.f0 r.z r.f1) true := by
  refine ev_step ?_
  simp only [laws_eqRow.f, laws_eqRow.b]
  exact ev_neg (by simp) (Ev.bind (laws_eqByteS.ev _ _ _ h) (ev_neg (by simp) (ev_some rfl)))
theorem laws_eqRowS.ev (y z : Bool) (l : List Row) (h : Few l) : Ev (fun k => laws_eqRowS.f k y (l.map Row.t) z (l.map Row.t)) true := by
  have hl : l.length ≤ 1048576 := h.1
  refine ev_step ?_
  simp only [laws_eqRowS.f, laws_eqRowS.b]
  refine ev_neg (by simp) ?_
  have key : ∀ (d n : Nat), n + d = l.length → Ev (fun k => laws_eqRowS.l0 k y (l.map Row.t) z (l.map Row.t) (n : Int)) true := by
    intro d
    induction d with
    | zero =>
      intro n hn
      refine ev_step ?_
      simp only [laws_eqRowS.l0, laws_eqRowS.l0b, List.length_map]
      exact ev_neg (by omega) (ev_some rfl)
    | succ d ih =>
      intro n hn
      have hlt : n < l.length := by omega
      refine ev_step ?_
      simp only [laws_eqRowS.l0, laws_eqRowS.l0b, List.length_map, Int.toNat_natCast, row_at hlt, Row.c0, Row.c1, Row.c1z, succ_nat n (by omega)]
      exact ev_pos (by omega) (ev_pos (by omega) (ev_pos (by omega) (ev_pos (by omega) (ev_pos (by omega) (Ev.bind (laws_eqRow.ev l[n] (h.2 _ (List.getElem_mem hlt))) (ev_neg (by simp) (ih (n + 1) (by omega))))))))
  exact key l.length 0 (by omega)
theorem laws_eqTable.ev (y z : Bool) (l : List Row) (h : Few l) : Ev (fun k => laws_eqTable.f k y (l.map Row.t) z (l.map Row.t)) true := by
  refine ev_step ?_
  simp only [laws_eqTable.f, laws_eqTable.b]
  exact Ev.bind (laws_eqRowS.ev y z l h) (ev_neg (by simp) (ev_some rfl))

theorem few_cp {l : List Row} (h : Few l) : Few (l.map Row.cp) := ⟨by simpa using h.1, fun r hr => by
  obtain ⟨x, hx, rfl⟩ := List.mem_map.1 hr
  exact h.2 x hx⟩
end Go.Proofs.YtadnejogdohfkaaG
namespace Go.Proofs.YtadnejogdohfkaaG
open Go Go.Proofs.YtadnejogdohfkaaRv Go.RowKit
set_option linter.unusedVariables false
set_option linter.unusedSimpArgs false

theorem spec_l07Hash.ev (z : Bool) (l : List Int) : Ev (fun k => spec_l07Hash.f k z l) (decide (l.length = 32)) := by
  refine ev_step ?_
  simp only [spec_l07Hash.f, spec_l07Hash.b]
  refine ev_some ?_
  have : ((l.length : Int) = 32) ↔ l.length = 32 := by omega
  simp [this]
theorem impl_areHashes.ev1 (y z : Bool) (l : List Int) : Ev (fun k => impl_areHashes.f k y [.nums 5 .u8 z l]) (decide (l.length = 32)) := by
  refine ev_step ?_
  simp only [impl_areHashes.f, impl_areHashes.b]
  refine ev_step ?_
  simp only [impl_areHashes.l0, impl_areHashes.l0b]
  refine ev_pos (by simp) (ev_pos (by simp) (ev_pos (by simp) ?_))
  have e : (((([.nums 5 .u8 z l] : List T).getD (0 : Int).toNat .bad).cells.getD 0 .bad).toNums) = l := rfl
  rw [e]
  refine ev_ite (fun c => ev_some ?_) (fun c => ?_)
  · have : ¬ l.length = 32 := fun h => c (by omega)
    simp [this]
  · have c' : l.length = 32 := by
      have : (l.length : Int) = 32 := by simpa using c
      omega
    refine ev_step ?_
    simp only [impl_areHashes.l0, impl_areHashes.l0b]
    refine ev_neg (by have : wrap64 ((0 : Int) + 1) = 1 := by unfold wrap64; omega
                      rw [this]; simp) (ev_some (by simp [c']))
end Go.Proofs.YtadnejogdohfkaaG
namespace Go.Proofs.YtadnejogdohfkaaG
open Go Go.Proofs.YtadnejogdohfkaaRv Go.RowKit
set_option linter.unusedVariables false
set_option linter.unusedSimpArgs false

structure By where
  z : Bool
  l : List Int
instance : Inhabited By := ⟨⟨false, []⟩⟩
def By.t (b : By) : T := .nums 5 .u8 b.z b.l
def By.cp (b : By) : By := ⟨false, b.l⟩
theorem by_at {l : List By} {i : Nat} (h : i < l.length) : (l.map By.t).getD i .bad = (l[i]).t := by simp [List.getD_eq_getElem?_getD, h]
theorem By.c0z (b : By) : (b.t.cells.getD 0 .bad).isNil = b.z := rfl
theorem By.c0 (b : By) : (b.t.cells.getD 0 .bad).toNums = b.l := rfl
def FitB (l : List By) : Prop := l.length ≤ 9223372036854775807 ∧ ∀ b ∈ l, b.l.length ≤ 9223372036854775807
def FewB (l : List By) : Prop := l.length ≤ 1048576 ∧ ∀ b ∈ l, okB b.l
theorem fewB_cp {l : List By} (h : FewB l) : FewB (l.map By.cp) := ⟨by simpa using h.1, fun r hr => by
  obtain ⟨x, hx, rfl⟩ := List.mem_map.1 hr
  exact h.2 x hx⟩
theorem laws_szByteSS.ev0 (z : Bool) (l : List By) (hl : l.length ≤ 1048576) (h : ∀ b ∈ l, b.l.length ≤ 9223372036854775807) : ∀ (d n : Nat) (a : Int), n + d = l.length → 0 ≤ a → a ≤ 1048576 → ∃ q, Ev (fun k => laws_szByteSS.l0 k z (l.map By.t) a (n : Int)) q ∧ SzR (∀ r ∈ l.drop n, okB r.l) a q
  | 0, n, a, hn, h0, h1 => by
    refine ⟨a, ev_step ?_, Or.inr ⟨h0, by omega, fun r hr => ?_⟩⟩
    · simp only [laws_szByteSS.l0, laws_szByteSS.l0b, List.length_map]
      exact ev_neg (by omega) (ev_some rfl)
    · rw [List.drop_of_length_le (by omega)] at hr; cases hr
  | d + 1, n, a, hn, h0, h1 => by
    have hlt : n < l.length := by omega
    obtain ⟨q, e, s⟩ := laws_szByteS.ev l[n].z l[n].l (h _ (List.getElem_mem hlt)) a h0 h1
    rcases s with rfl | ⟨s1, s2, s3⟩
    · refine ⟨-1, ev_step ?_, Or.inl rfl⟩
      simp only [laws_szByteSS.l0, laws_szByteSS.l0b, List.length_map, Int.toNat_natCast, by_at hlt, By.c0, By.c0z]
      exact ev_pos (by omega) (ev_pos (by omega) (ev_pos (by omega) (Ev.bind e (ev_pos (by omega) (ev_some rfl)))))
    · obtain ⟨p, e2, s'⟩ := laws_szByteSS.ev0 z l hl h d (n + 1) q (by omega) s1 (by omega)
      refine ⟨p, ev_step ?_, ?_⟩
      · simp only [laws_szByteSS.l0, laws_szByteSS.l0b, List.length_map, Int.toNat_natCast, by_at hlt, By.c0, By.c0z, succ_nat n (by omega)]
        exact ev_pos (by omega) (ev_pos (by omega) (ev_pos (by omega) (Ev.bind e (ev_neg (by omega) e2))))
      · rcases s' with rfl | ⟨t1, t2, t3⟩
        · exact Or.inl rfl
        · refine Or.inr ⟨t1, by omega, fun r hr => ?_⟩
          rw [List.drop_eq_getElem_cons hlt] at hr
          rcases List.mem_cons.1 hr with rfl | hr
          · exact s3
          · exact t3 r hr
theorem laws_szByteSS.ev (z : Bool) (l : List By) (h : FitB l) (a : Int) (h0 : 0 ≤ a) (h1 : a ≤ 1048576) : ∃ q, Ev (fun k => laws_szByteSS.f k z (l.map By.t) a) q ∧ SzR (FewB l) a q := by
  have hl := h.1
  have e : wrap64 (a - (l.length : Int)) = a - (l.length : Int) := w64 (by omega) (by omega)
  by_cases c : (l.length : Int) ≤ a
  · obtain ⟨q, e2, s⟩ := laws_szByteSS.ev0 z l (by clear e; omega) h.2 l.length 0 (a - l.length) (by omega) (by clear e; omega) (by clear e; omega)
    refine ⟨q, ev_step ?_, ?_⟩
    · simp only [laws_szByteSS.f, laws_szByteSS.b, List.length_map, e]
      clear e
      exact ev_neg (by omega) e2
    · clear e
      rcases s with rfl | ⟨t1, t2, t3⟩
      · exact Or.inl rfl
      · exact Or.inr ⟨t1, by omega, by omega, t3⟩
  · refine ⟨-1, ev_step ?_, Or.inl rfl⟩
    simp only [laws_szByteSS.f, laws_szByteSS.b, List.length_map, e]
    clear e
    exact ev_pos (by omega) (ev_some rfl)
theorem laws_toByteSS.ev (z : Bool) (l : List By) (h : FewB l) : Ev (fun k => laws_toByteSS.f k z (l.map By.t)) (false, (l.map By.cp).map By.t) := by
  have hl : l.length ≤ 1048576 := h.1
  refine ev_step ?_
  simp only [laws_toByteSS.f, laws_toByteSS.b, List.length_map]
  refine ev_pos trivial (ev_pos (by omega) (ev_pos (by omega) ?_))
  have key : ∀ (d n : Nat) (ys : List T), n + d = l.length → ys.length = l.length → ys.take n = ((l.map By.cp).map By.t).take n → Ev (fun k => laws_toByteSS.l0 k z (l.map By.t) ys (n : Int)) (false, (l.map By.cp).map By.t) := by
    intro d
    induction d with
    | zero =>
      intro n ys hn hy ht
      refine ev_step ?_
      simp only [laws_toByteSS.l0, laws_toByteSS.l0b, List.length_map]
      refine ev_neg (by omega) (ev_some ?_)
      rw [List.take_of_length_le (by omega), List.take_of_length_le (by simp; omega)] at ht
      rw [ht]
    | succ d ih =>
      intro n ys hn hy ht
      have hlt : n < l.length := by omega
      refine ev_step ?_
      have i2 := ih (n + 1) (ys.set n (l[n].cp).t) (by omega) (by simp [hy]) (by
        rw [List.take_succ_eq_append_getElem (by simp; omega), List.take_succ_eq_append_getElem (by simp; omega), List.take_set_of_le (Nat.le_refl n), ht, List.getElem_set_self]
        simp)
      simp only [laws_toByteSS.l0, laws_toByteSS.l0b, List.length_map, succ_nat n (by omega), Int.toNat_natCast, by_at hlt, By.c0, By.c0z]
      exact ev_pos (by omega) (ev_pos (by omega) (ev_pos (by omega) (Ev.bind (laws_toByteS.ev l[n].z l[n].l (h.2 _ (List.getElem_mem hlt))) (ev_pos (by omega) (ev_pos (by omega) i2)))))
  exact key l.length 0 _ (by omega) (by simp) (by simp)
theorem laws_eqByteSS.ev (y z : Bool) (l : List By) (h : FewB l) : Ev (fun k => laws_eqByteSS.f k y (l.map By.t) z (l.map By.t)) true := by
  have hl : l.length ≤ 1048576 := h.1
  refine ev_step ?_
  simp only [laws_eqByteSS.f, laws_eqByteSS.b]
  refine ev_neg (by simp) ?_
  have key : ∀ (d n : Nat), n + d = l.length → Ev (fun k => laws_eqByteSS.l0 k y (l.map By.t) z (l.map By.t) (n : Int)) true := by
    intro d
    induction d with
    | zero =>
      intro n hn
      refine ev_step ?_
      simp only [laws_eqByteSS.l0, laws_eqByteSS.l0b, List.length_map]
      exact ev_neg (by omega) (ev_some rfl)
    | succ d ih =>
      intro n hn
      have hlt : n < l.length := by omega
      refine ev_step ?_
      simp only [laws_eqByteSS.l0, laws_eqByteSS.l0b, List.length_map, Int.toNat_natCast, by_at hlt, By.c0, By.c0z, succ_nat n (by omega)]
      exact ev_pos (by omega) (ev_pos (by omega) (ev_pos (by omega) (ev_pos (by omega) (ev_pos (by omega) (Ev.bind (laws_eqByteS.ev _ _ _ (h.2 _ (List.getElem_mem hlt))) (ev_neg (by simp) (ih (n + 1) (by omega))))))))
  exact key l.length 0 (by omega)
theorem getD_in {α : Type} [Inhabited α] {l : List α} {n : Nat} (h : n < l.length) : l.getD n default = l[n] := by simp [h]
structure QcV where
  v : Int
  h : Int
  bz : Bool
  blk : List Int
  mz : Bool
  bits : List Int
  tz : Bool
  tags : List By
structure Head where
  v : Int
  h : Int
  p : Int
  az : Bool
  par : List Int
  rz : Bool
  root : List Int
  q : QcV
instance : Inhabited Head := ⟨⟨0, 0, 0, false, [], false, [], ⟨0, 0, false, [], false, [], false, []⟩⟩⟩
def Head.t (x : Head) : T := .agg [.int .i64 x.v, .int .i64 x.h, .int .i64 x.p, .nums 5 .u8 x.az x.par, .nums 5 .u8 x.rz x.root, .int .i64 x.q.v, .int .i64 x.q.h, .nums 5 .u8 x.q.bz x.q.blk, .nums 5 .u8 x.q.mz x.q.bits, .sl 45 x.q.tz (x.q.tags.map By.t)]
theorem head_at {l : List Head} {i : Nat} (h : i < l.length) : (l.map Head.t).getD i .bad = (l[i]).t := by simp [List.getD_eq_getElem?_getD, h]
section
variable (x : Head)
theorem Head.c0 : (x.t.cells.getD 0 .bad).toInt = x.v := rfl
theorem Head.c1 : (x.t.cells.getD 1 .bad).toInt = x.h := rfl
theorem Head.c2 : (x.t.cells.getD 2 .bad).toInt = x.p := rfl
theorem Head.c3z : (x.t.cells.getD 3 .bad).isNil = x.az := rfl
theorem Head.c3 : (x.t.cells.getD 3 .bad).toNums = x.par := rfl
theorem Head.c4z : (x.t.cells.getD 4 .bad).isNil = x.rz := rfl
theorem Head.c4 : (x.t.cells.getD 4 .bad).toNums = x.root := rfl
theorem Head.c5 : (x.t.cells.getD 5 .bad).toInt = x.q.v := rfl
theorem Head.c6 : (x.t.cells.getD 6 .bad).toInt = x.q.h := rfl
theorem Head.c7z : (x.t.cells.getD 7 .bad).isNil = x.q.bz := rfl
theorem Head.c7 : (x.t.cells.getD 7 .bad).toNums = x.q.blk := rfl
theorem Head.c8z : (x.t.cells.getD 8 .bad).isNil = x.q.mz := rfl
theorem Head.c8 : (x.t.cells.getD 8 .bad).toNums = x.q.bits := rfl
theorem Head.c9z : (x.t.cells.getD 9 .bad).isNil = x.q.tz := rfl
theorem Head.c9 : (x.t.cells.getD 9 .bad).toList = x.q.tags.map By.t := rfl
end
def QcV.cp (q : QcV) : QcV := ⟨q.v, q.h, false, q.blk, false, q.bits, false, q.tags.map By.cp⟩
def Head.cp (x : Head) : Head := ⟨x.v, x.h, x.p, false, x.par, false, x.root, x.q.cp⟩
def QcV.fit (q : QcV) : Prop := q.blk.length ≤ 9223372036854775807 ∧ q.bits.length ≤ 9223372036854775807 ∧ FitB q.tags
def QcV.few (q : QcV) : Prop := okB q.blk ∧ okB q.bits ∧ FewB q.tags
def Head.fit (x : Head) : Prop := x.par.length ≤ 9223372036854775807 ∧ x.root.length ≤ 9223372036854775807 ∧ x.q.fit
def Head.few (x : Head) : Prop := okB x.par ∧ okB x.root ∧ x.q.few
theorem Head.few_cp {x : Head} (h : x.few) : x.cp.few := ⟨h.1, h.2.1, h.2.2.1, h.2.2.2.1, fewB_cp h.2.2.2.2⟩
theorem laws_szQc.ev (q : QcV) (h : q.fit) (a : Int) (h0 : 0 ≤ a) (h1 : a ≤ 1048576) : ∃ r, Ev (fun k => laws_szQc.f k q.v q.h q.bz q.blk q.mz q.bits q.tz (q.tags.map By.t) a) r ∧ SzR q.few a r := by
  obtain ⟨r, e, s⟩ := laws_szByteS.ev q.bz q.blk h.1 a h0 h1
  rcases s with rfl | ⟨s1, s2, s3⟩
  · refine ⟨-1, ev_step ?_, Or.inl rfl⟩
    simp only [laws_szQc.f, laws_szQc.b]
    exact Ev.bind e (ev_pos (by omega) (ev_some rfl))
  obtain ⟨p, e2, s⟩ := laws_szByteS.ev q.mz q.bits h.2.1 r s1 (by omega)
  rcases s with rfl | ⟨t1, t2, t3⟩
  · refine ⟨-1, ev_step ?_, Or.inl rfl⟩
    simp only [laws_szQc.f, laws_szQc.b]
    exact Ev.bind e (ev_neg (by omega) (Ev.bind e2 (ev_pos (by omega) (ev_some rfl))))
  obtain ⟨o, e3, s⟩ := laws_szByteSS.ev q.tz q.tags h.2.2 p t1 (by omega)
  rcases s with rfl | ⟨u1, u2, u3⟩
  · refine ⟨-1, ev_step ?_, Or.inl rfl⟩
    simp only [laws_szQc.f, laws_szQc.b]
    exact Ev.bind e (ev_neg (by omega) (Ev.bind e2 (ev_neg (by omega) (Ev.bind e3 (ev_pos (by omega) (ev_some rfl))))))
  · refine ⟨o, ev_step ?_, Or.inr ⟨u1, by omega, s3, t3, u3⟩⟩
    simp only [laws_szQc.f, laws_szQc.b]
    exact Ev.bind e (ev_neg (by omega) (Ev.bind e2 (ev_neg (by omega) (Ev.bind e3 (ev_neg (by omega) (ev_some rfl))))))
theorem laws_szHead.ev (x : Head) (h : x.fit) (a : Int) (h0 : 0 ≤ a) (h1 : a ≤ 1048576) : ∃ r, Ev (fun k => laws_szHead.f k x.v x.h x.p x.az x.par x.rz x.root x.q.v x.q.h x.q.bz x.q.blk x.q.mz x.q.bits x.q.tz (x.q.tags.map By.t) a) r ∧ SzR x.few a r := by
  obtain ⟨r, e, s⟩ := laws_szByteS.ev x.az x.par h.1 a h0 h1
  rcases s with rfl | ⟨s1, s2, s3⟩
  · refine ⟨-1, ev_step ?_, Or.inl rfl⟩
    simp only [laws_szHead.f, laws_szHead.b]
    exact Ev.bind e (ev_pos (by omega) (ev_some rfl))
  obtain ⟨p, e2, s⟩ := laws_szByteS.ev x.rz x.root h.2.1 r s1 (by omega)
  rcases s with rfl | ⟨t1, t2, t3⟩
  · refine ⟨-1, ev_step ?_, Or.inl rfl⟩
    simp only [laws_szHead.f, laws_szHead.b]
    exact Ev.bind e (ev_neg (by omega) (Ev.bind e2 (ev_pos (by omega) (ev_some rfl))))
  obtain ⟨o, e3, s⟩ := laws_szQc.ev x.q h.2.2 p t1 (by omega)
  rcases s with rfl | ⟨u1, u2, u3⟩
  · refine ⟨-1, ev_step ?_, Or.inl rfl⟩
    simp only [laws_szHead.f, laws_szHead.b]
    exact Ev.bind e (ev_neg (by omega) (Ev.bind e2 (ev_neg (by omega) (Ev.bind e3 (ev_pos (by omega) (ev_some rfl))))))
  · refine ⟨o, ev_step ?_, Or.inr ⟨u1, by omega, s3, t3, u3⟩⟩
    simp only [laws_szHead.f, laws_szHead.b]
    exact Ev.bind e (ev_neg (by omega) (Ev.bind e2 (ev_neg (by omega) (Ev.bind e3 (ev_neg (by omega) (ev_some rfl))))))
def FitH (l : List Head) : Prop := l.length ≤ 9223372036854775807 ∧ ∀ x ∈ l, x.fit
def FewH (l : List Head) : Prop := l.length ≤ 1048576 ∧ ∀ x ∈ l, x.few
theorem fewH_cp {l : List Head} (h : FewH l) : FewH (l.map Head.cp) := ⟨by simpa using h.1, fun r hr => by
  obtain ⟨x, hx, rfl⟩ := List.mem_map.1 hr
  exact Head.few_cp (h.2 x hx)⟩
theorem laws_szHeadS.ev0 (z : Bool) (l : List Head) (hl : l.length ≤ 1048576) (h : ∀ b ∈ l, b.fit) : ∀ (d n : Nat) (a : Int), n + d = l.length → 0 ≤ a → a ≤ 1048576 → ∃ q, Ev (fun k => laws_szHeadS.l0 k z (l.map Head.t) a (n : Int)) q ∧ SzR (∀ r ∈ l.drop n, r.few) a q
  | 0, n, a, hn, h0, h1 => by
    refine ⟨a, ev_step ?_, Or.inr ⟨h0, by omega, fun r hr => ?_⟩⟩
    · simp only [laws_szHeadS.l0, laws_szHeadS.l0b, List.length_map]
      exact ev_neg (by omega) (ev_some rfl)
    · rw [List.drop_of_length_le (by omega)] at hr; cases hr
  | d + 1, n, a, hn, h0, h1 => by
    have hlt : n < l.length := by omega
    obtain ⟨q, e, s⟩ := laws_szHead.ev l[n] (h _ (List.getElem_mem hlt)) a h0 h1
    rcases s with rfl | ⟨s1, s2, s3⟩
    · refine ⟨-1, ev_step ?_, Or.inl rfl⟩
      simp only [laws_szHeadS.l0, laws_szHeadS.l0b, List.length_map, Int.toNat_natCast, head_at hlt, Head.c0, Head.c1, Head.c2, Head.c3z, Head.c3, Head.c4z, Head.c4, Head.c5, Head.c6, Head.c7z, Head.c7, Head.c8z, Head.c8, Head.c9z, Head.c9]
      exact ev_pos (by omega) (ev_pos (by omega) (ev_pos (by omega) (Ev.bind e (ev_pos (by omega) (ev_some rfl)))))
    · obtain ⟨p, e2, s'⟩ := laws_szHeadS.ev0 z l hl h d (n + 1) q (by omega) s1 (by omega)
      refine ⟨p, ev_step ?_, ?_⟩
      · simp only [laws_szHeadS.l0, laws_szHeadS.l0b, List.length_map, Int.toNat_natCast, head_at hlt, Head.c0, Head.c1, Head.c2, Head.c3z, Head.c3, Head.c4z, Head.c4, Head.c5, Head.c6, Head.c7z, Head.c7, Head.c8z, Head.c8, Head.c9z, Head.c9, succ_nat n (by omega)]
        exact ev_pos (by omega) (ev_pos (by omega) (ev_pos (by omega) (Ev.bind e (ev_neg (by omega) e2))))
      · rcases s' with rfl | ⟨t1, t2, t3⟩
        · exact Or.inl rfl
        · refine Or.inr ⟨t1, by omega, fun r hr => ?_⟩
          rw [List.drop_eq_getElem_cons hlt] at hr
          rcases List.mem_cons.1 hr with rfl | hr
          · exact s3
          · exact t3 r hr
theorem laws_szHeadS.ev (z : Bool) (l : List Head) (h : FitH l) (a : Int) (h0 : 0 ≤ a) (h1 : a ≤ 1048576) : ∃ q, Ev (fun k => laws_szHeadS.f k z (l.map Head.t) a) q ∧ SzR (FewH l) a q := by
  have hl := h.1
  have e : wrap64 (a - (l.length : Int)) = a - (l.length : Int) := w64 (by omega) (by omega)
  by_cases c : (l.length : Int) ≤ a
  · obtain ⟨q, e2, s⟩ := laws_szHeadS.ev0 z l (by clear e; omega) h.2 l.length 0 (a - l.length) (by omega) (by clear e; omega) (by clear e; omega)
    refine ⟨q, ev_step ?_, ?_⟩
    · simp only [laws_szHeadS.f, laws_szHeadS.b, List.length_map, e]
      clear e
      exact ev_neg (by omega) e2
    · clear e
      rcases s with rfl | ⟨t1, t2, t3⟩
      · exact Or.inl rfl
      · exact Or.inr ⟨t1, by omega, by omega, t3⟩
  · refine ⟨-1, ev_step ?_, Or.inl rfl⟩
    simp only [laws_szHeadS.f, laws_szHeadS.b, List.length_map, e]
    clear e
    exact ev_pos (by omega) (ev_some rfl)
theorem laws_toQc.ev (q : QcV) (h : q.few) : Ev (fun k => laws_toQc.f k q.v q.h q.bz q.blk q.mz q.bits q.tz (q.tags.map By.t)) (q.v, q.h, false, q.blk, false, q.bits, false, (q.tags.map By.cp).map By.t) := by
  refine ev_step ?_
  simp only [laws_toQc.f, laws_toQc.b]
  exact Ev.bind (laws_toByteS.ev _ _ h.1) (Ev.bind (laws_toByteS.ev _ _ h.2.1) (Ev.bind (laws_toByteSS.ev _ _ h.2.2) (ev_some rfl)))
theorem laws_toHead.ev (x : Head) (h : x.few) : Ev (fun k => laws_toHead.f k x.v x.h x.p x.az x.par x.rz x.root x.q.v x.q.h x.q.bz x.q.blk x.q.mz x.q.bits x.q.tz (x.q.tags.map By.t)) (x.v, x.h, x.p, false, x.par, false, x.root, x.q.v, x.q.h, false, x.q.blk, false, x.q.bits, false, (x.q.tags.map By.cp).map By.t) := by
  refine ev_step ?_
  simp only [laws_toHead.f, laws_toHead.b]
  exact Ev.bind (laws_toByteS.ev _ _ h.1) (Ev.bind (laws_toByteS.ev _ _ h.2.1) (Ev.bind (laws_toQc.ev _ h.2.2) (ev_some rfl)))
theorem laws_toHeadS.ev (z : Bool) (l : List Head) (h : FewH l) : Ev (fun k => laws_toHeadS.f k z (l.map Head.t)) (false, (l.map Head.cp).map Head.t) := by
  have hl : l.length ≤ 1048576 := h.1
  refine ev_step ?_
  simp only [laws_toHeadS.f, laws_toHeadS.b, List.length_map]
  refine ev_pos trivial (ev_pos (by omega) (ev_pos (by omega) ?_))
  have key : ∀ (d n : Nat) (ys : List T), n + d = l.length → ys.length = l.length → ys.take n = ((l.map Head.cp).map Head.t).take n → Ev (fun k => laws_toHeadS.l0 k z (l.map Head.t) ys (n : Int)) (false, (l.map Head.cp).map Head.t) := by
    intro d
    induction d with
    | zero =>
      intro n ys hn hy ht
      refine ev_step ?_
      simp only [laws_toHeadS.l0, laws_toHeadS.l0b, List.length_map]
      refine ev_neg (by omega) (ev_some ?_)
      rw [List.take_of_length_le (by omega), List.take_of_length_le (by simp; omega)] at ht
      rw [ht]
    | succ d ih =>
      intro n ys hn hy ht
      have hlt : n < l.length := by omega
      refine ev_step ?_
      have i2 := ih (n + 1) (ys.set n (l[n].cp).t) (by omega) (by simp [hy]) (by
        rw [List.take_succ_eq_append_getElem (by simp; omega), List.take_succ_eq_append_getElem (by simp; omega), List.take_set_of_le (Nat.le_refl n), ht, List.getElem_set_self]
        simp)
      simp only [laws_toHeadS.l0, laws_toHeadS.l0b, List.length_map, succ_nat n (by omega), Int.toNat_natCast, head_at hlt, Head.c0, Head.c1, Head.c2, Head.c3z, Head.c3, Head.c4z, Head.c4, Head.c5, Head.c6, Head.c7z, Head.c7, Head.c8z, Head.c8, Head.c9z, Head.c9]
      exact ev_pos (by omega) (ev_pos (by omega) (ev_pos (by omega) (Ev.bind (laws_toHead.ev l[n] (h.2 _ (List.getElem_mem hlt))) (ev_pos (by omega) (ev_pos (by omega) i2)))))
  exact key l.length 0 _ (by omega) (by simp) (by simp)
theorem laws_eqQc.ev (q : QcV) (h : q.few) : Ev (fun k => laws_eqQc.f k q.v q.h q.bz q.blk q.mz q.bits q.tz (q.tags.map By.t) q.v q.h q.bz q.blk q.mz q.bits q.tz (q.tags.map By.t)) true := by
  refine ev_step ?_
  simp only [laws_eqQc.f, laws_eqQc.b]
  exact ev_neg (by simp) (ev_neg (by simp) (Ev.bind (laws_eqByteS.ev _ _ _ h.1) (ev_neg (by simp) (Ev.bind (laws_eqByteS.ev _ _ _ h.2.1) (ev_neg (by simp) (Ev.bind (laws_eqByteSS.ev _ _ _ h.2.2) (ev_neg (by simp) (ev_some rfl))))))))
theorem laws_eqHead.ev (x : Head) (h : x.few) : Ev (fun k => laws_eqHead.f k x.v x.h x.p x.az x.par x.rz x.root x.q.v x.q.h x.q.bz x.q.blk x.q.mz x.q.bits x.q.tz (x.q.tags.map By.t) x.v x.h x.p x.az x.par x.rz x.root x.q.v x.q.h x.q.bz x.q.blk x.q.mz x.q.bits x.q.tz (x.q.tags.map By.t)) true := by
  refine ev_step ?_
  simp only [laws_eqHead.f, laws_eqHead.b]
  exact ev_neg (by simp) (ev_neg (by simp) (ev_neg (by simp) (Ev.bind (laws_eqByteS.ev _ _ _ h.1) (ev_neg (by simp) (Ev.bind (laws_eqByteS.ev _ _ _ h.2.1) (ev_neg (by simp) (Ev.bind (laws_eqQc.ev _ h.2.2) (ev_neg (by simp) (ev_some rfl)))))))))
theorem laws_eqHeadS.ev (y z : Bool) (l : List Head) (h : FewH l) : Ev (fun k => laws_eqHeadS.f k y (l.map Head.t) z (l.map Head.t)) true := by
  have hl : l.length ≤ 1048576 := h.1
  refine ev_step ?_
  simp only [laws_eqHeadS.f, laws_eqHeadS.b]
  refine ev_neg (by simp) ?_
  have key : ∀ (d n : Nat), n + d = l.length → Ev (fun k => laws_eqHeadS.l0 k y (l.map Head.t) z (l.map Head.t) (n : Int)) true := by
    intro d
    induction d with
    | zero =>
      intro n hn
      refine ev_step ?_
      simp only [laws_eqHeadS.l0, laws_eqHeadS.l0b, List.length_map]
      exact ev_neg (by omega) (ev_some rfl)
    | succ d ih =>
      intro n hn
      have hlt : n < l.length := by omega
      refine ev_step ?_
      simp only [laws_eqHeadS.l0, laws_eqHeadS.l0b, List.length_map, Int.toNat_natCast, head_at hlt, Head.c0, Head.c1, Head.c2, Head.c3z, Head.c3, Head.c4z, Head.c4, Head.c5, Head.c6, Head.c7z, Head.c7, Head.c8z, Head.c8, Head.c9z, Head.c9, succ_nat n (by omega)]
      exact ev_pos (by omega) (ev_pos (by omega) (ev_pos (by omega) (ev_pos (by omega) (ev_pos (by omega) (Ev.bind (laws_eqHead.ev _ (h.2 _ (List.getElem_mem hlt))) (ev_neg (by simp) (ih (n + 1) (by omega))))))))
  exact key l.length 0 (by omega)
end Go.Proofs.YtadnejogdohfkaaG
namespace Go.Proofs.YtadnejogdohfkaaG
open Go Go.Proofs.YtadnejogdohfkaaRv Go.RowKit
set_option linter.unusedVariables false
set_option linter.unusedSimpArgs false

structure Light where
  l0 : Int
  l1 : Int
  l2 : Int
  l3 : Int
  l4 : Int
  rz : Bool
  rows : List Row
  skip : Int
  bz : Bool
  buf : List Int
  cz : Bool
  chain : List Head
def Light.cp (x : Light) : Light := ⟨x.l0, x.l1, x.l2, x.l3, x.l4, false, x.rows.map Row.cp, x.skip, false, x.buf, false, x.chain.map Head.cp⟩
def Light.fit (x : Light) : Prop := Fit x.rows ∧ x.buf.length ≤ 9223372036854775807 ∧ FitH x.chain
def Light.few (x : Light) : Prop := Few x.rows ∧ okB x.buf ∧ FewH x.chain
theorem Light.fewCp {x : Light} (h : x.few) : x.cp.few := ⟨few_cp h.1, h.2.1, fewH_cp h.2.2⟩
theorem laws_szPush.ev (w : Int) (z : Bool) (l : List Int) (h : l.length ≤ 9223372036854775807) (a : Int) (h0 : 0 ≤ a) (h1 : a ≤ 1048576) : ∃ q, Ev (fun k => laws_szPush.f k w z l a) q ∧ SzR (okB l) a q := by
  obtain ⟨q, e, s⟩ := laws_szByteS.ev z l h a h0 h1
  rcases s with rfl | ⟨s1, s2, s3⟩
  · refine ⟨-1, ev_step ?_, Or.inl rfl⟩
    simp only [laws_szPush.f, laws_szPush.b]
    exact Ev.bind e (ev_pos (by omega) (ev_some rfl))
  · refine ⟨q, ev_step ?_, Or.inr ⟨s1, s2, s3⟩⟩
    simp only [laws_szPush.f, laws_szPush.b]
    exact Ev.bind e (ev_neg (by omega) (ev_some rfl))
theorem laws_szLight.ev (x : Light) (h : x.fit) (a : Int) (h0 : 0 ≤ a) (h1 : a ≤ 1048576) : ∃ r, Ev (fun k => laws_szLight.f k x.l0 x.l1 x.l2 x.l3 x.l4 x.rz (x.rows.map Row.t) x.skip x.bz x.buf x.cz (x.chain.map Head.t) a) r ∧ SzR x.few a r := by
  obtain ⟨r, e, s⟩ := laws_szTable.ev x.rz x.rows h.1 a h0 h1
  rcases s with rfl | ⟨s1, s2, s3⟩
  · refine ⟨-1, ev_step ?_, Or.inl rfl⟩
    simp only [laws_szLight.f, laws_szLight.b]
    exact Ev.bind e (ev_pos (by omega) (ev_some rfl))
  obtain ⟨p, e2, s⟩ := laws_szPush.ev x.skip x.bz x.buf h.2.1 r s1 (by omega)
  rcases s with rfl | ⟨t1, t2, t3⟩
  · refine ⟨-1, ev_step ?_, Or.inl rfl⟩
    simp only [laws_szLight.f, laws_szLight.b]
    exact Ev.bind e (ev_neg (by omega) (Ev.bind e2 (ev_pos (by omega) (ev_some rfl))))
  obtain ⟨o, e3, s⟩ := laws_szHeadS.ev x.cz x.chain h.2.2 p t1 (by omega)
  rcases s with rfl | ⟨u1, u2, u3⟩
  · refine ⟨-1, ev_step ?_, Or.inl rfl⟩
    simp only [laws_szLight.f, laws_szLight.b]
    exact Ev.bind e (ev_neg (by omega) (Ev.bind e2 (ev_neg (by omega) (Ev.bind e3 (ev_pos (by omega) (ev_some rfl))))))
  · refine ⟨o, ev_step ?_, Or.inr ⟨u1, by omega, s3, t3, u3⟩⟩
    simp only [laws_szLight.f, laws_szLight.b]
    exact Ev.bind e (ev_neg (by omega) (Ev.bind e2 (ev_neg (by omega) (Ev.bind e3 (ev_neg (by omega) (ev_some rfl))))))
theorem laws_toLimits.ev (a b c d e : Int) : Ev (fun k => laws_toLimits.f k a b c d e) (a, b, c, d, e) := by
  refine ev_step ?_
  simp only [laws_toLimits.f, laws_toLimits.b]
  exact ev_some rfl
theorem laws_toPush.ev (w : Int) (z : Bool) (l : List Int) (h : okB l) : Ev (fun k => laws_toPush.f k w z l) (w, false, l) := by
  refine ev_step ?_
  simp only [laws_toPush.f, laws_toPush.b]
  exact Ev.bind (laws_toByteS.ev z l h) (ev_some rfl)
theorem laws_toLight.ev (x : Light) (h : x.few) : Ev (fun k => laws_toLight.f k x.l0 x.l1 x.l2 x.l3 x.l4 x.rz (x.rows.map Row.t) x.skip x.bz x.buf x.cz (x.chain.map Head.t)) (x.l0, x.l1, x.l2, x.l3, x.l4, false, (x.rows.map Row.cp).map Row.t, x.skip, false, x.buf, false, (x.chain.map Head.cp).map Head.t) := by
  refine ev_step ?_
  simp only [laws_toLight.f, laws_toLight.b]
  exact Ev.bind (laws_toLimits.ev _ _ _ _ _) (Ev.bind (laws_toTable.ev _ _ h.1) (Ev.bind (laws_toPush.ev _ _ _ h.2.1) (Ev.bind (laws_toHeadS.ev _ _ h.2.2) (ev_some rfl))))
theorem laws_eqLimits.ev (a b c d e : Int) : Ev (fun k => laws_eqLimits.f k a b c d e a b c d e) true := by
  refine ev_step ?_
  simp only [laws_eqLimits.f, laws_eqLimits.b]
  exact ev_neg (by simp) (ev_neg (by simp) (ev_neg (by simp) (ev_neg (by simp) (ev_neg (by simp) (ev_some rfl)))))
theorem laws_eqPush.ev (w : Int) (y z : Bool) (l : List Int) (h : okB l) : Ev (fun k => laws_eqPush.f k w y l w z l) true := by
  refine ev_step ?_
  simp only [laws_eqPush.f, laws_eqPush.b]
  exact ev_neg (by simp) (Ev.bind (laws_eqByteS.ev y z l h) (ev_neg (by simp) (ev_some rfl)))
theorem laws_eqLight.ev (x : Light) (h : x.few) : Ev (fun k => laws_eqLight.f k x.l0 x.l1 x.l2 x.l3 x.l4 x.rz (x.rows.map Row.t) x.skip x.bz x.buf x.cz (x.chain.map Head.t) x.l0 x.l1 x.l2 x.l3 x.l4 x.rz (x.rows.map Row.t) x.skip x.bz x.buf x.cz (x.chain.map Head.t)) true := by
  refine ev_step ?_
  simp only [laws_eqLight.f, laws_eqLight.b]
  exact Ev.bind (laws_eqLimits.ev _ _ _ _ _) (ev_neg (by simp) (Ev.bind (laws_eqTable.ev _ _ _ h.1) (ev_neg (by simp) (Ev.bind (laws_eqPush.ev _ _ _ _ h.2.1) (ev_neg (by simp) (Ev.bind (laws_eqHeadS.ev _ _ _ h.2.2) (ev_neg (by simp) (ev_some rfl))))))))
end Go.Proofs.YtadnejogdohfkaaG
namespace Go.Proofs.YtadnejogdohfkaaG
open Go Go.Proofs.YtadnejogdohfkaaRv Go.RowKit
set_option linter.unusedVariables false
set_option linter.unusedSimpArgs false

structure Sl (α : Type) where
  z : Bool
  l : List α
def goodI (n : Int) : Prop := (Lit.int .i64 n).wf = true
def By.good (b : By) : Prop := b.l.length ≤ 9223372036854775807 ∧ ∀ n ∈ b.l, (Lit.int .u8 n).wf = true
def GoodL {α : Type} (g : α → Prop) (l : List α) : Prop := l.length ≤ 9223372036854775807 ∧ ∀ x ∈ l, g x
def Row.good (r : Row) : Prop := goodI r.f0 ∧ By.good ⟨r.z, r.f1⟩
def Tab.good (x : Sl Row) : Prop := GoodL Row.good x.l
def QcV.good (q : QcV) : Prop := goodI q.v ∧ goodI q.h ∧ By.good ⟨q.bz, q.blk⟩ ∧ By.good ⟨q.mz, q.bits⟩ ∧ GoodL By.good q.tags
def Head.good (h : Head) : Prop := goodI h.v ∧ goodI h.h ∧ goodI h.p ∧ By.good ⟨h.az, h.par⟩ ∧ By.good ⟨h.rz, h.root⟩ ∧ h.q.good
theorem By.bytes {b : By} (h : b.good) : bytesOk b.l := fun x hx => wf8 (h.2 x hx)
theorem goodI_bd {n : Int} (h : goodI n) : -9223372036854775808 ≤ n ∧ n ≤ 9223372036854775807 := wf64 h
theorem fit_rows {l : List Row} (h : GoodL Row.good l) : Fit l := ⟨h.1, fun r hr => (h.2 r hr).2.1⟩
theorem fitB_of {l : List By} (h : GoodL By.good l) : FitB l := ⟨h.1, fun b hb => (h.2 b hb).1⟩
def BytesL (l : List By) : Prop := ∀ b ∈ l, bytesOk b.l
theorem bytes_of {l : List By} (h : GoodL By.good l) : BytesL l := fun b hb => By.bytes (h.2 b hb)
theorem QcV.fit_of {q : QcV} (h : q.good) : q.fit := ⟨h.2.2.1.1, h.2.2.2.1.1, fitB_of h.2.2.2.2⟩
def QcV.byt (q : QcV) : Prop := bytesOk q.blk ∧ bytesOk q.bits ∧ BytesL q.tags
theorem QcV.byt_of {q : QcV} (h : q.good) : q.byt := ⟨By.bytes h.2.2.1, By.bytes h.2.2.2.1, bytes_of h.2.2.2.2⟩
def Head.byt (h : Head) : Prop := bytesOk h.par ∧ bytesOk h.root ∧ h.q.byt
theorem Head.fit_of {h : Head} (g : h.good) : h.fit := ⟨g.2.2.2.1.1, g.2.2.2.2.1.1, QcV.fit_of g.2.2.2.2.2⟩
theorem Head.byt_of {h : Head} (g : h.good) : h.byt := ⟨By.bytes g.2.2.2.1, By.bytes g.2.2.2.2.1, QcV.byt_of g.2.2.2.2.2⟩
theorem fitH_of {l : List Head} (h : GoodL Head.good l) : FitH l := ⟨h.1, fun x hx => Head.fit_of (h.2 x hx)⟩
def BytH (l : List Head) : Prop := ∀ x ∈ l, x.byt
theorem bytH_of {l : List Head} (h : GoodL Head.good l) : BytH l := fun x hx => Head.byt_of (h.2 x hx)


structure Vt where
  v : Int
  h : Int
  bz : Bool
  blk : List Int
  who : Int
  tz : Bool
  tag : List Int
instance : Inhabited Vt := ⟨⟨0, 0, false, [], 0, false, []⟩⟩
def Vt.t (x : Vt) : T := .agg [.int .i64 x.v, .int .i64 x.h, .nums 5 .u8 x.bz x.blk, .int .i64 x.who, .nums 5 .u8 x.tz x.tag]
theorem Vt.c0 (x : Vt) : (x.t.cells.getD 0 .bad).toInt = x.v := rfl
theorem Vt.c1 (x : Vt) : (x.t.cells.getD 1 .bad).toInt = x.h := rfl
theorem Vt.c2 (x : Vt) : (x.t.cells.getD 2 .bad).toNums = x.blk := rfl
theorem Vt.c3 (x : Vt) : (x.t.cells.getD 3 .bad).toInt = x.who := rfl
theorem Vt.c4z (x : Vt) : (x.t.cells.getD 4 .bad).isNil = x.tz := rfl
theorem Vt.c4 (x : Vt) : (x.t.cells.getD 4 .bad).toNums = x.tag := rfl
def Vt.good (x : Vt) : Prop := goodI x.v ∧ goodI x.h ∧ By.good ⟨x.bz, x.blk⟩ ∧ goodI x.who ∧ By.good ⟨x.tz, x.tag⟩
def Vt.cp (x : Vt) : Vt := ⟨x.v, x.h, false, x.blk, x.who, false, x.tag⟩
structure En where
  who : Int
  high : Int
  tz : Bool
  tag : List Int
instance : Inhabited En := ⟨⟨0, 0, false, []⟩⟩
def En.t (x : En) : T := .agg [.int .i64 x.who, .int .i64 x.high, .nums 5 .u8 x.tz x.tag]
theorem En.c0 (x : En) : (x.t.cells.getD 0 .bad).toInt = x.who := rfl
theorem En.c1 (x : En) : (x.t.cells.getD 1 .bad).toInt = x.high := rfl
theorem En.c2 (x : En) : (x.t.cells.getD 2 .bad).toNums = x.tag := rfl
def En.good (x : En) : Prop := goodI x.who ∧ goodI x.high ∧ By.good ⟨x.tz, x.tag⟩
def En.cp (x : En) : En := ⟨x.who, x.high, false, x.tag⟩

structure Lm where
  l0 : Int
  l1 : Int
  l2 : Int
  l3 : Int
  l4 : Int
def Lm.good (x : Lm) : Prop := goodI x.l0 ∧ goodI x.l1 ∧ goodI x.l2 ∧ goodI x.l3 ∧ goodI x.l4
structure TcV where
  v : Int
  ez : Bool
  ents : List En
def TcV.good (x : TcV) : Prop := goodI x.v ∧ GoodL En.good x.ents
structure Ps where
  skip : Int
  z : Bool
  buf : List Int
def Ps.good (x : Ps) : Prop := goodI x.skip ∧ By.good ⟨x.z, x.buf⟩
def Light.good (x : Light) : Prop := Lm.good ⟨x.l0, x.l1, x.l2, x.l3, x.l4⟩ ∧ GoodL Row.good x.rows ∧ Ps.good ⟨x.skip, x.bz, x.buf⟩ ∧ GoodL Head.good x.chain
theorem Light.fit_of {x : Light} (h : x.good) : x.fit := ⟨fit_rows h.2.1, h.2.2.1.2.1, fitH_of h.2.2.2⟩
structure Fo where
  l0 : Int
  l1 : Int
  l2 : Int
  l3 : Int
  l4 : Int
  hz : Bool
  heads : List Head
def Fo.good (x : Fo) : Prop := Lm.good ⟨x.l0, x.l1, x.l2, x.l3, x.l4⟩ ∧ GoodL Head.good x.heads
structure Pf where
  hz : Bool
  heads : List Head
  q : QcV
def Pf.good (x : Pf) : Prop := GoodL Head.good x.heads ∧ x.q.good
end Go.Proofs.YtadnejogdohfkaaG
namespace Go.Proofs.YtadnejogdohfkaaG
open Go Go.Proofs.YtadnejogdohfkaaRv Go.RowKit
set_option linter.unusedVariables false
set_option linter.unusedSimpArgs false

theorem tdiv_nat (n m : Nat) : Int.tdiv (n : Int) (m : Int) = ((n / m : Nat) : Int) := by
  rw [Int.tdiv_eq_ediv_of_nonneg (by omega)]
  exact (Int.natCast_ediv n m).symm
theorem tmod_nat (n m : Nat) : Int.tmod (n : Int) (m : Int) = ((n % m : Nat) : Int) := by
  rw [Int.tmod_eq_emod_of_nonneg (by omega)]
  exact (Int.natCast_emod n m).symm
theorem w64n {n : Nat} (h : n ≤ 9223372036854775807) : wrap64 (n : Int) = (n : Int) := w64 (by omega) (by omega)

def bitAt (b : List Int) (i : Nat) : Bool := rdI b ((i / 8 : Nat) : Int) / 2 ^ (i % 8) % 2 == 1
theorem bitAt_out {b : List Int} {i : Nat} (h : 8 * b.length ≤ i) : bitAt b i = false := by
  have : b.length ≤ i / 8 := by omega
  have e : rdI b ((i / 8 : Nat) : Int) = 0 := by
    unfold rdI
    rw [toNat_nat, List.getD_eq_getElem?_getD, List.getElem?_eq_none this]
    rfl
  unfold bitAt
  rw [e]
  simp
theorem rd_nice {l : List Int} (h : niceB l) (i : Int) : 0 ≤ rdI l i ∧ rdI l i < 256 := by
  unfold rdI
  rw [List.getD_eq_getElem?_getD]
  cases e : l[i.toNat]? with
  | none => simp
  | some x => exact h.2 x (List.mem_of_getElem? e)
theorem u8_and1 {x : Int} (h0 : 0 ≤ x) (h1 : x < 256) : Go.bits .and .u8 x 1 = x % 2 := bits_mask .u8 8 (by decide) wraps_u8 1 (by decide) x h0 h1
theorem div_pow_bd {x : Int} (h0 : 0 ≤ x) (h1 : x < 256) (m : Nat) : 0 ≤ x / 2 ^ m ∧ x / 2 ^ m < 256 := by
  have hp : (0 : Int) < 2 ^ m := Int.pow_pos (by decide)
  refine ⟨Int.ediv_nonneg h0 (Int.le_of_lt hp), ?_⟩
  have := Int.ediv_le_self (2 ^ m) h0
  omega

def bitsFrom (b : List Int) : Nat → Nat → List Nat
  | _, 0 => []
  | i, m + 1 => if bitAt b i = true then i :: bitsFrom b (i + 1) m else bitsFrom b (i + 1) m

def bitsList (b : List Int) : List Int := (bitsFrom b 0 (8 * b.length)).map fun (n : Nat) => (n : Int)
theorem bitsFrom_bd (b : List Int) : ∀ (m i : Nat) (x : Nat), x ∈ bitsFrom b i m → i ≤ x ∧ x < i + m
  | 0, i, x, h => by simp [bitsFrom] at h
  | m + 1, i, x, h => by
    unfold bitsFrom at h
    split at h
    · rcases List.mem_cons.1 h with rfl | h
      · omega
      · have := bitsFrom_bd b m (i + 1) x h
        omega
    · have := bitsFrom_bd b m (i + 1) x h
      omega
theorem bitsFrom_length (b : List Int) : ∀ (m i : Nat), (bitsFrom b i m).length ≤ m
  | 0, i => by simp [bitsFrom]
  | m + 1, i => by
    have := bitsFrom_length b m (i + 1)
    unfold bitsFrom
    split
    · simp only [List.length_cons]; omega
    · omega
theorem bitsList_length (b : List Int) : (bitsList b).length ≤ 8 * b.length := by
  unfold bitsList
  rw [List.length_map]
  exact bitsFrom_length b _ _
def bitsSize (n : Int) : Int := if n < 1 then 0 else (n - 1) / 8 + 1

def bitsOk (b : List Int) (n : Int) : Bool := decide (1 ≤ n ∧ n ≤ 10) && (decide ((b.length : Int) = bitsSize n) && (bitsList b).all fun i => decide (i < n))
theorem bitsFrom_last (b : List Int) : ∀ (m i : Nat) (h : bitsFrom b i m ≠ []), ∀ x ∈ bitsFrom b i m, x ≤ (bitsFrom b i m).getLast h
  | 0, i, h, x, hx => by simp [bitsFrom] at hx
  | m + 1, i, h, x, hx => by
    by_cases c : bitAt b i = true
    · have e : bitsFrom b i (m + 1) = i :: bitsFrom b (i + 1) m := by rw [bitsFrom, if_pos c]
      by_cases n : bitsFrom b (i + 1) m = []
      · have : bitsFrom b i (m + 1) = [i] := by rw [e, n]
        simp only [this, List.mem_singleton] at hx
        simp only [this, List.getLast_singleton]
        omega
      · have l : (bitsFrom b i (m + 1)).getLast h = (bitsFrom b (i + 1) m).getLast n := by simp only [e, List.getLast_cons n]
        rw [l]
        rw [e] at hx
        rcases List.mem_cons.1 hx with rfl | hx
        · have := bitsFrom_bd b m (x + 1) _ (List.getLast_mem n)
          omega
        · exact bitsFrom_last b m (i + 1) n x hx
    · have e : bitsFrom b i (m + 1) = bitsFrom b (i + 1) m := by rw [bitsFrom, if_neg c]
      have n : bitsFrom b (i + 1) m ≠ [] := by rw [← e]; exact h
      have l : (bitsFrom b i (m + 1)).getLast h = (bitsFrom b (i + 1) m).getLast n := by simp only [e]
      rw [l]
      rw [e] at hx
      exact bitsFrom_last b m (i + 1) n x hx
theorem bitsList_last (b : List Int) (h : bitsList b ≠ []) : ∀ x ∈ bitsList b, x ≤ (bitsList b).getLast h := by
  intro x hx
  have h' : bitsFrom b 0 (8 * b.length) ≠ [] := by intro e; apply h; simp [bitsList, e]
  have l : (bitsList b).getLast h = (((bitsFrom b 0 (8 * b.length)).getLast h' : Nat) : Int) := by simp only [bitsList, List.getLast_map]
  unfold bitsList at hx
  obtain ⟨n, hn, rfl⟩ := List.mem_map.1 hx
  have := bitsFrom_last b _ _ h' n hn
  rw [l]
  omega
theorem all_lt_last (b : List Int) (n : Int) : ((bitsList b).all fun i => decide (i < n)) = (if h : bitsList b = [] then true else decide ((bitsList b).getLast h < n)) := by
  split
  · rename_i h
    rw [h]
    rfl
  · rename_i h
    rw [Bool.eq_iff_iff, List.all_eq_true]
    simp only [decide_eq_true_eq]
    exact ⟨fun g => g _ (List.getLast_mem h), fun g x hx => by have := bitsList_last b h x hx; omega⟩

theorem bitAt_test {b : List Int} (h : niceB b) (i : Nat) : bitAt b i = (rdI b ((i / 8 : Nat) : Int)).toNat.testBit (i % 8) := by
  have q := rd_nice h ((i / 8 : Nat) : Int)
  unfold bitAt
  rw [Nat.testBit_eq_decide_div_mod_eq]
  obtain ⟨n, hn⟩ := Int.eq_ofNat_of_zero_le q.1
  rw [hn]
  have : ((n : Int) / 2 ^ (i % 8)) % 2 = ((n / 2 ^ (i % 8) % 2 : Nat) : Int) := by
    rw [Int.natCast_emod, Int.natCast_ediv, Int.natCast_pow]
    rfl
  rw [this, toNat_nat]
  by_cases c : n / 2 ^ (i % 8) % 2 = 1
  · rw [c]; rfl
  · rw [decide_eq_false c]
    have : n / 2 ^ (i % 8) % 2 = 0 := by omega
    rw [this]; rfl
def bitCount (b : List Int) : Nat := (bitsFrom b 0 (8 * b.length)).length
def pop8 (n : Nat) : Nat := ((List.range 8).filter fun j => n.testBit j).length
theorem bitsFrom_count (b : List Int) : ∀ (m i : Nat), (bitsFrom b i m).length = ((List.range m).filter fun j => bitAt b (i + j)).length
  | 0, i => rfl
  | m + 1, i => by
    have ih := bitsFrom_count b m (i + 1)
    have e : ((List.range m).map (fun j => j + 1)).filter (fun j => bitAt b (i + j)) = ((List.range m).filter fun j => bitAt b (i + 1 + j)).map (fun j => j + 1) := by
      rw [List.filter_map]
      congr 1
      apply List.filter_congr
      intro x _
      show bitAt b (i + (x + 1)) = _
      congr 1
      omega
    rw [List.range_succ_eq_map]
    unfold bitsFrom
    show _ = (List.filter _ (0 :: (List.range m).map (fun j => j + 1))).length
    rw [List.filter_cons, e, Nat.add_zero]
    cases c : bitAt b i <;> simp [ih]
theorem bitsFrom_split (b : List Int) : ∀ (m i d : Nat), bitsFrom b i (m + d) = bitsFrom b i m ++ bitsFrom b (i + m) d
  | 0, i, d => by rw [Nat.zero_add]; rfl
  | m + 1, i, d => by
    have ih := bitsFrom_split b m (i + 1) d
    rw [show m + 1 + d = (m + d) + 1 by omega, show i + (m + 1) = i + 1 + m by omega]
    have e1 : bitsFrom b i ((m + d) + 1) = if bitAt b i = true then i :: bitsFrom b (i + 1) (m + d) else bitsFrom b (i + 1) (m + d) := rfl
    have e2 : bitsFrom b i (m + 1) = if bitAt b i = true then i :: bitsFrom b (i + 1) m else bitsFrom b (i + 1) m := rfl
    rw [e1, e2, ih]
    cases bitAt b i <;> simp
theorem pop_byte {b : List Int} (h : niceB b) {i : Nat} (hi : i < b.length) : (bitsFrom b (8 * i) 8).length = pop8 (b[i]).toNat := by
  rw [bitsFrom_count]
  unfold pop8
  congr 1
  apply List.filter_congr
  intro j hj
  have hj := List.mem_range.1 hj
  rw [bitAt_test h, show (8 * i + j) / 8 = i by omega, show (8 * i + j) % 8 = j by omega, rd_nat hi]


theorem bits_xor_nat (k : IntKind) (j : Nat) (hj : j ≤ k.bits) (hk : ∀ n : Int, 0 ≤ n → n < 2 ^ j → k.wrap n = n) (a b : Nat) (ha : a < 2 ^ j) (hb : b < 2 ^ j) : Go.bits .xor k a b = ((a ^^^ b : Nat) : Int) := by
  have hp : 2 ^ j ≤ 2 ^ k.bits := Nat.pow_le_pow_right (by decide) hj
  have ha' : a % 2 ^ k.bits = a := Nat.mod_eq_of_lt (Nat.lt_of_lt_of_le ha hp)
  have hb' : b % 2 ^ k.bits = b := Nat.mod_eq_of_lt (Nat.lt_of_lt_of_le hb hp)
  simp only [Go.bits, BitVec.ofInt_natCast, BitVec.toNat_xor, BitVec.toNat_ofNat, ha', hb']
  exact hk _ (Int.natCast_nonneg _) (by exact_mod_cast Nat.xor_lt_two_pow ha hb)
theorem wrapsC (j : Nat) (hj : j ≤ 63) (n : Int) (h0 : 0 ≤ n) (h1 : n < 2 ^ j) : IntKind.i64.wrap n = n := by
  have : (2 : Int) ^ j ≤ 2 ^ 63 := by exact_mod_cast Nat.pow_le_pow_right (by decide) hj
  have e : (2 : Int) ^ 63 = 9223372036854775808 := by decide
  rw [IntKind.wrap_i64]
  omega
theorem xor_i64 (j : Nat) (hj : j ≤ 63) {a b : Int} (ha : 0 ≤ a) (ha' : a < 2 ^ j) (hb : 0 ≤ b) (hb' : b < 2 ^ j) : 0 ≤ Go.bits .xor .i64 a b ∧ Go.bits .xor .i64 a b < 2 ^ j := by
  obtain ⟨x, rfl⟩ := Int.eq_ofNat_of_zero_le ha
  obtain ⟨y, rfl⟩ := Int.eq_ofNat_of_zero_le hb
  have hx : x < 2 ^ j := by exact_mod_cast ha'
  have hy : y < 2 ^ j := by exact_mod_cast hb'
  rw [bits_xor_nat .i64 j (by show j ≤ 64; omega) (wrapsC j hj) x y hx hy]
  exact ⟨by omega, by exact_mod_cast Nat.xor_lt_two_pow hx hy⟩
theorem and1_i64 {a : Int} (h0 : 0 ≤ a) (h1 : a < 4294967296) : Go.bits .and .i64 a 1 = a % 2 := bits_mask .i64 32 (by decide) (wrapsC 32 (by decide)) 1 (by decide) a h0 h1

theorem or_join {a x : Int} {i : Nat} (hi : 8 * i ≤ 48) (ha : 0 ≤ a) (ha' : a < 2 ^ (8 * i)) (hx : 0 ≤ x) (hx' : x < 256) : Go.bits .or .i64 a (x * 2 ^ (8 * i)) = a + x * 2 ^ (8 * i) := by
  obtain ⟨a, rfl⟩ := Int.eq_ofNat_of_zero_le ha
  obtain ⟨x, rfl⟩ := Int.eq_ofNat_of_zero_le hx
  have ha2 : a < 2 ^ (8 * i) := by exact_mod_cast ha'
  have hx2 : x < 2 ^ 8 := by omega
  have e : ((x : Int) * 2 ^ (8 * i)) = ((x * 2 ^ (8 * i) : Nat) : Int) := by simp
  have p : (2 : Nat) ^ (8 * i) ≤ 2 ^ 48 := Nat.pow_le_pow_right (by decide) hi
  have hb : x * 2 ^ (8 * i) < 2 ^ 56 := by
    have : x * 2 ^ (8 * i) ≤ 255 * 2 ^ (8 * i) := Nat.mul_le_mul_right _ (by omega)
    omega
  rw [e, (bits_nat .i64 56 (by decide) (wrapsC 56 (by decide)) a _ (by omega) hb).2, Nat.or_comm, Nat.mul_comm, ← Nat.two_pow_add_eq_or_of_lt ha2 x]
  simp
  omega

theorem xor32 {a b : Int} (ha : 0 ≤ a) (ha' : a < 4294967296) (hb : 0 ≤ b) (hb' : b < 4294967296) : 0 ≤ Go.bits .xor .i64 a b ∧ Go.bits .xor .i64 a b < 4294967296 := by
  have e : (2 : Int) ^ 32 = 4294967296 := by decide
  have := xor_i64 32 (by decide) ha (by rw [e]; exact ha') hb (by rw [e]; exact hb')
  rwa [e] at this
theorem pow256_le {m n : Nat} (h : m ≤ n) : (256 : Int) ^ m ≤ 256 ^ n := by
  have p : (0 : Int) < 256 ^ m := Int.pow_pos (by decide)
  induction h with
  | refl => exact Int.le_refl _
  | step _ ih =>
    rw [Int.pow_succ]
    generalize (256 : Int) ^ m = q at *
    omega


def leVal : List Int → Int
  | [] => 0
  | x :: t => x + 256 * leVal t
theorem leVal_snoc : ∀ (l : List Int) (x : Int), leVal (l ++ [x]) = leVal l + 256 ^ l.length * x
  | [], x => by simp [leVal]
  | y :: t, x => by
    rw [List.cons_append, leVal, leVal, leVal_snoc t x, List.length_cons, Int.pow_succ, Int.mul_add, ← Int.mul_assoc, Int.mul_comm (256 ^ t.length) 256]
    omega
theorem leVal_bd : ∀ (l : List Int), (∀ x ∈ l, 0 ≤ x ∧ x < 256) → 0 ≤ leVal l ∧ leVal l < 256 ^ l.length
  | [], _ => by simp [leVal]
  | y :: t, h => by
    have h0 := h y (by simp)
    have := leVal_bd t (fun x hx => h x (by simp [hx]))
    rw [leVal, List.length_cons, Int.pow_succ]
    generalize (256 : Int) ^ t.length = q at *
    omega
theorem pow256 (i : Nat) : (256 : Int) ^ i = 2 ^ (8 * i) := by rw [Int.pow_mul]; rfl


def crcTurn (c : Int) : Int := if c % 2 = 1 then Go.bits .xor .i64 (c / 2) 3988292384 else c / 2
def crcTurns : Nat → Int → Int
  | 0, c => c
  | m + 1, c => crcTurns m (crcTurn c)
def crcStep (c x : Int) : Int := crcTurns 8 (Go.bits .xor .i64 c x)
def crcFold (c : Int) (l : List Int) : Int := l.foldl crcStep c
theorem crcFold_cons (c x : Int) (t : List Int) : crcFold c (x :: t) = crcFold (crcStep c x) t := List.foldl_cons ..
def crcV (b : List Int) : Int := Go.bits .xor .i64 (crcFold (Go.bits .xor .i64 0 4294967295) b) 4294967295
theorem crcTurn_bd {c : Int} (h0 : 0 ≤ c) (h1 : c < 4294967296) : 0 ≤ crcTurn c ∧ crcTurn c < 4294967296 := by
  unfold crcTurn
  split
  · exact xor32 (by omega) (by omega) (by decide) (by decide)
  · omega
theorem crcTurns_bd : ∀ (m : Nat) {c : Int}, 0 ≤ c → c < 4294967296 → 0 ≤ crcTurns m c ∧ crcTurns m c < 4294967296
  | 0, c, h0, h1 => ⟨h0, h1⟩
  | m + 1, c, h0, h1 => crcTurns_bd m (crcTurn_bd h0 h1).1 (crcTurn_bd h0 h1).2



def frameAt (lok : Bool) (fr : Int) (s : List Int) (i : Nat) : Int × Int :=
  if lok = false ∨ s.length ≤ i ∨ rdI s (i : Int) ≠ 181 ∨ (i + 1 < s.length ∧ rdI s ((i + 1 : Nat) : Int) ≠ 70) then (0, 0)
  else if s.length < i + 4 then (1, 0)
  else
    if ¬(1 ≤ leVal ((s.drop (i + 2)).take 2) ∧ leVal ((s.drop (i + 2)).take 2) ≤ fr) then (0, 0)
    else if (s.length : Int) < i + 8 + leVal ((s.drop (i + 2)).take 2) then (1, 8 + leVal ((s.drop (i + 2)).take 2))
    else if leVal ((s.drop (i + 4)).take 4) = crcV ((s.drop (i + 8)).take (leVal ((s.drop (i + 2)).take 2)).toNat) then (3, 8 + leVal ((s.drop (i + 2)).take 2)) else (2, 8 + leVal ((s.drop (i + 2)).take 2))

def pushOk (lok : Bool) (fr sk : Int) (buf : List Int) : Bool := lok && (isNum sk && (decide (buf = []) || ((frameAt lok fr buf 0).1 == 1)))
end Go.Proofs.YtadnejogdohfkaaG
namespace Go.Proofs.YtadnejogdohfkaaG
open Go Go.Proofs.YtadnejogdohfkaaRv Go.RowKit
set_option linter.unusedVariables false
set_option linter.unusedSimpArgs false


end Go.Proofs.YtadnejogdohfkaaG
namespace Go.Proofs.YtadnejogdohfkaaG
open Go Go.Proofs.YtadnejogdohfkaaRv Go.RowKit
set_option linter.unusedVariables false
set_option linter.unusedSimpArgs false

theorem spec_LimitsOk.ev (a b c d e : Int) : Ev (fun k => spec_LimitsOk.f k a b c d e) (limitsOk a b c d e) := by
  refine ev_step ?_
  simp only [spec_LimitsOk.f, spec_LimitsOk.b]
  refine Ev.bind (spec_l02Signers.ev _) (ev_ite (fun c1 => Ev.bind (spec_l01In.ev _ _ _) (ev_ite (fun c2 => Ev.bind (spec_l01In.ev _ _ _) (ev_ite (fun c3 => Ev.bind (spec_l01In.ev _ _ _) (ev_ite (fun c4 => Ev.bind (spec_l01In.ev _ _ _) (ev_some ?_)) fun c4 => ev_some ?_)) fun c3 => ev_some ?_)) fun c2 => ev_some ?_)) fun c1 => ev_some ?_)
  all_goals (simp_all [limitsOk]; try omega)
theorem impl_LimitsOk.ev (a b c d e : Int) : Ev (fun k => impl_LimitsOk.f k a b c d e) (limitsOk a b c d e) := by
  refine ev_step ?_
  simp only [impl_LimitsOk.f, impl_LimitsOk.b]
  refine Ev.bind (impl_within.ev _ _ _) (ev_ite (fun c1 => Ev.bind (impl_within.ev _ _ _) (ev_ite (fun c2 => Ev.bind (impl_within.ev _ _ _) (ev_ite (fun c3 => Ev.bind (impl_within.ev _ _ _) (ev_ite (fun c4 => Ev.bind (impl_within.ev _ _ _) (ev_some ?_)) fun c4 => ev_some ?_)) fun c3 => ev_some ?_)) fun c2 => ev_some ?_)) fun c1 => ev_some ?_)
  all_goals (simp_all [limitsOk]; try omega)
def belongs (n tx txs fr hd : Int) (l : List Row) : Bool := limitsOk n tx txs fr hd && (tabOk l && decide ((l.length : Int) = n))
theorem impl_belongs.ev (a b c d e : Int) (z : Bool) (l : List Row) (h : l.length ≤ 1048576) : Ev (fun k => impl_belongs.f k a b c d e z (l.map Row.t)) (belongs a b c d e l) := by
  refine ev_step ?_
  simp only [impl_belongs.f, impl_belongs.b, List.length_map]
  unfold belongs
  refine Ev.bind (impl_LimitsOk.ev _ _ _ _ _) (ev_ite (fun c1 => Ev.bind (impl_TableOk.ev _ _ h) (ev_ite (fun c2 => ev_some ?_) fun c2 => ev_some ?_)) fun c1 => ev_some ?_)
  · rw [c1, c2]; rfl
  · simp [c2]
  · simp [c1]
theorem spec_l23Goes.ev (a b c d e : Int) (z : Bool) (l : List Row) (h : l.length ≤ 1048576) : Ev (fun k => spec_l23Goes.f k a b c d e z (l.map Row.t)) (belongs a b c d e l) := by
  refine ev_step ?_
  simp only [spec_l23Goes.f, spec_l23Goes.b, List.length_map]
  unfold belongs
  refine Ev.bind (spec_LimitsOk.ev _ _ _ _ _) (ev_ite (fun c1 => Ev.bind (spec_TableOk.ev _ _ h) (ev_ite (fun c2 => ev_some ?_) fun c2 => ev_some ?_)) fun c1 => ev_some ?_)
  · rw [c1, c2]; simp [eq_comm]
  · simp [c2]
  · simp [c1]
theorem spec_BitsSize.ev (n : Int) (h : i64r n) : Ev (fun k => spec_BitsSize.f k n) (bitsSize n) := by
  have h' : -9223372036854775808 ≤ n ∧ n ≤ 9223372036854775807 := h
  refine ev_step ?_
  simp only [spec_BitsSize.f, spec_BitsSize.b]
  unfold bitsSize
  refine ev_ite (fun c => ev_some (by rw [if_pos c])) fun c => ev_some ?_
  rw [if_neg c, w64 (n := n - 1) (by omega) (by omega), Int.tdiv_eq_ediv_of_nonneg (by omega), w64 (n := (n - 1) / 8) (by omega) (by omega), w64 (by omega) (by omega)]
theorem impl_BitsSize.ev (n : Int) (h : i64r n) : Ev (fun k => impl_BitsSize.f k n) (bitsSize n) := by
  have h' : -9223372036854775808 ≤ n ∧ n ≤ 9223372036854775807 := h
  refine ev_step ?_
  simp only [impl_BitsSize.f, impl_BitsSize.b]
  unfold bitsSize
  refine ev_ite (fun c => ev_some (by rw [if_pos c])) fun c => ev_some ?_
  rw [if_neg c, w64 (n := n - 1) (by omega) (by omega), Int.tdiv_eq_ediv_of_nonneg (by omega), w64 (n := (n - 1) / 8) (by omega) (by omega), w64 (by omega) (by omega)]
theorem impl_BitsHas.ev (z : Bool) (b : List Int) (h : niceB b) (i : Nat) (hi : i ≤ 4611686018427387904) : Ev (fun k => impl_BitsHas.f k z b (i : Int)) (bitAt b i) := by
  have hl := h.1
  have e8 : Int.tdiv (i : Int) 8 = ((i / 8 : Nat) : Int) := tdiv_nat i 8
  have m8 : Int.tmod (i : Int) 8 = ((i % 8 : Nat) : Int) := tmod_nat i 8
  refine ev_step ?_
  simp only [impl_BitsHas.f, impl_BitsHas.b]
  rw [w64 (n := 8 * (b.length : Int)) (by omega) (by omega), w64 (n := 8 * (b.length : Int) - 1) (by omega) (by omega), e8, m8, w64n (by omega)]
  refine Ev.bind (impl_within.ev _ _ _) (ev_ite (fun c => ?_) fun c => ?_)
  · have c' : (0 : Int) ≤ (i : Int) ∧ (i : Int) ≤ 8 * (b.length : Int) - 1 := by simpa using c
    refine ev_pos (by omega) (ev_pos (by omega) (ev_pos (by omega) (ev_some ?_)))
    have q := rd_nice h ((i / 8 : Nat) : Int)
    have e : shrI .u8 (rdI b ((i / 8 : Nat) : Int)) ((i % 8 : Nat) : Int) = rdI b ((i / 8 : Nat) : Int) / 2 ^ (i % 8) := by
      unfold shrI
      rw [toNat_nat, Nat.min_eq_left (by show i % 8 ≤ 8; omega)]
    have d := div_pow_bd q.1 q.2 (i % 8)
    rw [e, u8_and1 d.1 d.2]
    unfold bitAt
    rw [Bool.eq_iff_iff]; simp
  · have c' : ¬ ((0 : Int) ≤ (i : Int) ∧ (i : Int) ≤ 8 * (b.length : Int) - 1) := by simpa using c
    exact ev_some (bitAt_out (by omega)).symm
theorem spec_BitsHas.ev (z : Bool) (b : List Int) (h : niceB b) (i : Nat) (hi : i ≤ 4611686018427387904) : Ev (fun k => spec_BitsHas.f k z b (i : Int)) (bitAt b i) := by
  have hl := h.1
  have e8 : Int.tdiv (i : Int) 8 = ((i / 8 : Nat) : Int) := tdiv_nat i 8
  have m8 : Int.tmod (i : Int) 8 = ((i % 8 : Nat) : Int) := tmod_nat i 8
  have q := rd_nice h ((i / 8 : Nat) : Int)
  refine ev_step ?_
  simp only [spec_BitsHas.f, spec_BitsHas.b]
  rw [e8, m8, w64n (by omega), w64 (n := rdI b _) (by omega) (by omega)]
  refine ev_pos (by omega) (ev_ite (fun c => ?_) fun c => ev_some (bitAt_out (by omega)).symm)
  refine ev_pos (by omega) (ev_pos (by omega) (ev_pos (by omega) (ev_some ?_)))
  have e : shrI .i64 (rdI b ((i / 8 : Nat) : Int)) ((i % 8 : Nat) : Int) = rdI b ((i / 8 : Nat) : Int) / 2 ^ (i % 8) := by
    unfold shrI
    rw [toNat_nat, Nat.min_eq_left (by show i % 8 ≤ 64; omega)]
  have d := div_pow_bd q.1 q.2 (i % 8)
  rw [e, Int.tmod_eq_emod_of_nonneg d.1]
  unfold bitAt
  rw [Bool.eq_iff_iff]; simp
theorem impl_BitsList.ev0 (z : Bool) (b : List Int) (h : niceB b) : ∀ (d n : Nat) (acc : List Int), n + d = 8 * b.length → acc.length ≤ n → Ev (fun k => impl_BitsList.l0 k z b acc ((8 * b.length : Nat) : Int) (n : Int)) (false, acc ++ (bitsFrom b n d).map fun (n : Nat) => (n : Int))
  | 0, n, acc, hn, ha => by
    refine ev_step ?_
    simp only [impl_BitsList.l0, impl_BitsList.l0b]
    exact ev_neg (by omega) (ev_some (by simp [bitsFrom]))
  | d + 1, n, acc, hn, ha => by
    have hl := h.1
    refine ev_step ?_
    simp only [impl_BitsList.l0, impl_BitsList.l0b]
    refine ev_pos (by omega) (Ev.bind (impl_BitsHas.ev z b h n (by omega)) ?_)
    rw [w64s (by omega)]
    unfold bitsFrom
    refine ev_ite (fun c => ?_) (fun c => ?_)
    · rw [if_pos c]
      refine ev_pos (by omega) (ev_to (impl_BitsList.ev0 z b h d (n + 1) _ (by omega) (by simp; omega)) ?_)
      simp
    · rw [if_neg c]
      exact impl_BitsList.ev0 z b h d (n + 1) acc (by omega) (by omega)
theorem impl_BitsList.ev (z : Bool) (b : List Int) (h : niceB b) : Ev (fun k => impl_BitsList.f k z b) (false, bitsList b) := by
  have hl := h.1
  refine ev_step ?_
  simp only [impl_BitsList.f, impl_BitsList.b]
  rw [w64 (by omega) (by omega)]
  exact ev_to (impl_BitsList.ev0 z b h (8 * b.length) 0 [] (by omega) (by simp)) (by simp [bitsList])
theorem spec_BitsList.ev0 (z : Bool) (b : List Int) (h : niceB b) : ∀ (d n : Nat) (acc : List Int), n + d = 8 * b.length → acc.length ≤ n → Ev (fun k => spec_BitsList.l0 k z b acc (n : Int)) (false, acc ++ (bitsFrom b n d).map fun (n : Nat) => (n : Int))
  | 0, n, acc, hn, ha => by
    have hl := h.1
    refine ev_step ?_
    simp only [spec_BitsList.l0, spec_BitsList.l0b]
    rw [w64 (n := 8 * (b.length : Int)) (by omega) (by omega)]
    exact ev_neg (by omega) (ev_some (by simp [bitsFrom]))
  | d + 1, n, acc, hn, ha => by
    have hl := h.1
    refine ev_step ?_
    simp only [spec_BitsList.l0, spec_BitsList.l0b]
    rw [w64 (n := 8 * (b.length : Int)) (by omega) (by omega)]
    refine ev_pos (by omega) (Ev.bind (spec_BitsHas.ev z b h n (by omega)) ?_)
    rw [w64s (by omega)]
    unfold bitsFrom
    refine ev_ite (fun c => ?_) (fun c => ?_)
    · rw [if_pos c]
      refine ev_pos (by omega) (ev_to (spec_BitsList.ev0 z b h d (n + 1) _ (by omega) (by simp; omega)) ?_)
      simp
    · rw [if_neg c]
      exact spec_BitsList.ev0 z b h d (n + 1) acc (by omega) (by omega)
theorem spec_BitsList.ev (z : Bool) (b : List Int) (h : niceB b) : Ev (fun k => spec_BitsList.f k z b) (false, bitsList b) := by
  refine ev_step ?_
  simp only [spec_BitsList.f, spec_BitsList.b]
  exact ev_to (spec_BitsList.ev0 z b h (8 * b.length) 0 [] (by omega) (by simp)) (by simp [bitsList])
theorem impl_BitsOk.ev0 (z : Bool) (n : Int) (l : List Int) (hl : l.length ≤ 9223372036854775806) : ∀ (d i : Nat), i + d = l.length → Ev (fun k => impl_BitsOk.l0 k n z l (l.length : Int) (i : Int)) ((l.drop i).all fun x => decide (x < n))
  | 0, i, hi => by
    refine ev_step ?_
    simp only [impl_BitsOk.l0, impl_BitsOk.l0b]
    refine ev_neg (by omega) (ev_some ?_)
    rw [List.drop_of_length_le (by omega)]
    rfl
  | d + 1, i, hi => by
    have hlt : i < l.length := by omega
    refine ev_step ?_
    simp only [impl_BitsOk.l0, impl_BitsOk.l0b]
    refine ev_pos (by omega) (ev_pos (by omega) (ev_pos (by omega) ?_))
    rw [w64s (by omega), rd_nat hlt, List.drop_eq_getElem_cons hlt, List.all_cons]
    refine ev_ite (fun c => ev_some ?_) (fun c => ev_to (impl_BitsOk.ev0 z n l hl d (i + 1) (by omega)) ?_)
    · simp; omega
    · simp; omega
theorem impl_BitsOk.ev (z : Bool) (b : List Int) (n : Int) (h : niceB b) (hn : i64r n) : Ev (fun k => impl_BitsOk.f k z b n) (bitsOk b n) := by
  have hl := h.1
  have hL := bitsList_length b
  refine ev_step ?_
  simp only [impl_BitsOk.f, impl_BitsOk.b]
  unfold bitsOk
  refine Ev.bind (impl_within.ev _ _ _) (ev_ite (fun c => ev_some ?_) fun c => Ev.bind (impl_BitsSize.ev n hn) (ev_ite (fun e => ev_some ?_) fun e => Ev.bind (impl_BitsList.ev z b h) (ev_to (impl_BitsOk.ev0 false n (bitsList b) (by omega) (bitsList b).length 0 (by omega)) ?_)))
  · have : ¬ (1 ≤ n ∧ n ≤ 10) := by simpa using c
    simp [this]
  · have : ¬ (b.length : Int) = bitsSize n := by simpa using e
    simp [this]
  · have c' : 1 ≤ n ∧ n ≤ 10 := by simpa using c
    have e' : (b.length : Int) = bitsSize n := by simpa using e
    simp [c', e']
theorem spec_BitsOk.ev (z : Bool) (b : List Int) (n : Int) (h : niceB b) (hn : i64r n) : Ev (fun k => spec_BitsOk.f k z b n) (bitsOk b n) := by
  have hl := h.1
  have hL := bitsList_length b
  refine ev_step ?_
  simp only [spec_BitsOk.f, spec_BitsOk.b]
  unfold bitsOk
  rw [all_lt_last]
  refine Ev.bind (spec_l02Signers.ev _) (ev_ite (fun c => ev_some ?_) fun c => Ev.bind (spec_BitsSize.ev n hn) (ev_ite (fun e => ev_some ?_) fun e => Ev.bind (spec_BitsList.ev z b h) ?_))
  · have : ¬ (1 ≤ n ∧ n ≤ 10) := by simpa using c
    simp [this]
  · have : ¬ (b.length : Int) = bitsSize n := by simpa using e
    simp [this]
  have c' : 1 ≤ n ∧ n ≤ 10 := by simpa using c
  have e' : (b.length : Int) = bitsSize n := by simpa using e
  refine ev_ite (fun z => ev_some ?_) (fun z => ?_)
  · have z' : (((bitsList b).length : Nat) : Int) = 0 := z
    have : bitsList b = [] := List.length_eq_zero_iff.1 (by omega)
    simp [c', e', this]
  · have z' : ¬ (((bitsList b).length : Nat) : Int) = 0 := z
    have hz : 0 < (bitsList b).length := by omega
    show Ev (fun k => cond (decide ((0 : Int) ≤ wrap64 (((bitsList b).length : Int) - 1))) (cond (decide (wrap64 (((bitsList b).length : Int) - 1) < ((bitsList b).length : Int))) (some (decide (rdI (bitsList b) (wrap64 (((bitsList b).length : Int) - 1)) < n))) none) none) _
    rw [w64p (by omega) hz]
    refine ev_pos (by omega) (ev_pos (by omega) (ev_some ?_))
    rw [rd_nat (by omega)]
    have : bitsList b ≠ [] := by intro x; rw [x] at hz; simp at hz
    simp [c', e', this, List.getLast_eq_getElem]
theorem spec_BitsCount.ev (z : Bool) (b : List Int) (h : niceB b) : Ev (fun k => spec_BitsCount.f k z b) ((bitCount b : Nat) : Int) := by
  refine ev_step ?_
  simp only [spec_BitsCount.f, spec_BitsCount.b]
  exact Ev.bind (spec_BitsList.ev z b h) (ev_some (by simp [bitsList, bitCount]))
theorem bits_OnesCount8.all : ∀ n : Fin 256, bits_OnesCount8.f 1 ((n.val : Nat) : Int) = some ((pop8 n.val : Nat) : Int) := by decide +kernel
theorem bits_OnesCount8.ev {x : Int} (h0 : 0 ≤ x) (h1 : x < 256) : Ev (fun k => bits_OnesCount8.f k x) ((pop8 x.toNat : Nat) : Int) := by
  have := bits_OnesCount8.all ⟨x.toNat, by omega⟩
  have e : ((x.toNat : Nat) : Int) = x := by omega
  simp only [e] at this
  exact ⟨1, fun k hk => by
    obtain ⟨j, rfl⟩ : ∃ j, k = j + 1 := ⟨k - 1, by omega⟩
    exact this⟩
theorem pop8_le (n : Nat) : pop8 n ≤ 8 := by
  unfold pop8
  exact Nat.le_trans (List.length_filter_le _ _) (by simp)
theorem impl_BitsCount.ev0 (z : Bool) (b : List Int) (hb : niceB b) : ∀ (d i : Nat), i + d = b.length → Ev (fun k => impl_BitsCount.l0 k (((bitsFrom b 0 (8 * i)).length : Nat) : Int) z b (b.length : Int) (i : Int)) ((bitCount b : Nat) : Int) := by
  intro d
  have hlen := hb.1
  induction d with
  | zero =>
    intro i hi
    refine ev_step ?_
    simp only [impl_BitsCount.l0, impl_BitsCount.l0b]
    refine ev_neg (by omega) (ev_some ?_)
    unfold bitCount
    rw [show i = b.length by omega]
  | succ d ih =>
    intro i hi
    have hlt : i < b.length := by omega
    have e := ih (i + 1) (by omega)
    have hx := hb.2 _ (List.getElem_mem hlt)
    have q := bitsFrom_length b (8 * i) 0
    have q8 := pop8_le (b[i]).toNat
    have es : (bitsFrom b 0 (8 * (i + 1))).length = (bitsFrom b 0 (8 * i)).length + pop8 (b[i]).toNat := by
      rw [show 8 * (i + 1) = 8 * i + 8 by omega, bitsFrom_split, List.length_append, Nat.zero_add, pop_byte hb hlt]
    rw [es] at e
    refine ev_step ?_
    simp only [impl_BitsCount.l0, impl_BitsCount.l0b]
    refine ev_pos (by omega) (ev_pos (by omega) (ev_pos (by omega) ?_))
    rw [rd_nat hlt]
    refine Ev.bind (bits_OnesCount8.ev hx.1 hx.2) ?_
    rw [w64s (by omega), w64 (by omega) (by omega)]
    exact e
theorem impl_BitsCount.ev (z : Bool) (b : List Int) (hb : niceB b) : Ev (fun k => impl_BitsCount.f k z b) ((bitCount b : Nat) : Int) := by
  refine ev_step ?_
  simp only [impl_BitsCount.f, impl_BitsCount.b]
  exact impl_BitsCount.ev0 z b hb b.length 0 (by omega)


end Go.Proofs.YtadnejogdohfkaaG
namespace Go.Proofs.YtadnejogdohfkaaG
open Go Go.Proofs.YtadnejogdohfkaaRv Go.RowKit
set_option linter.unusedVariables false
set_option linter.unusedSimpArgs false

def areH (l : List By) : Bool := allFrom (fun n => decide ((l.getD n default).l.length = 32)) 0 l.length
theorem impl_areHashes.ev (z : Bool) (l : List By) (h : l.length ≤ 1048576) : Ev (fun k => impl_areHashes.f k z (l.map By.t)) (areH l) := by
  refine ev_step ?_
  simp only [impl_areHashes.f, impl_areHashes.b, List.length_map]
  unfold areH
  refine ev_allp (fun k i => impl_areHashes.l0 k z (l.map By.t) (l.length : Int) i) l.length _ (fun n hn hp r hr => ?_) (fun n hn hp => ?_) ?_ l.length 0 (by omega)
  · rw [getD_in hn] at hp
    refine ev_step ?_
    simp only [impl_areHashes.l0, impl_areHashes.l0b, List.length_map, Int.toNat_natCast, by_at hn, By.c0, By.c0z, succ_nat n (by omega)]
    have hp' : l[n].l.length = 32 := by simpa using hp
    exact ev_pos (by omega) (ev_pos (by omega) (ev_pos (by omega) (ev_neg (by simp [hp']) hr)))
  · rw [getD_in hn] at hp
    refine ev_step ?_
    simp only [impl_areHashes.l0, impl_areHashes.l0b, List.length_map, Int.toNat_natCast, by_at hn, By.c0, By.c0z, succ_nat n (by omega)]
    have hp' : ¬ l[n].l.length = 32 := by simpa using hp
    exact ev_pos (by omega) (ev_pos (by omega) (ev_pos (by omega) (ev_pos (by omega) (ev_some rfl))))
  · refine ev_step ?_
    simp only [impl_areHashes.l0, impl_areHashes.l0b]
    exact ev_neg (by omega) (ev_some rfl)
theorem impl_areHashes.ev2 (y z w : Bool) (a b : List Int) : Ev (fun k => impl_areHashes.f k y [.nums 5 .u8 z a, .nums 5 .u8 w b]) (decide (a.length = 32) && decide (b.length = 32)) :=
  ev_to (impl_areHashes.ev y [⟨z, a⟩, ⟨w, b⟩] (by simp)) (by simp [areH, allFrom])
theorem spec_l08Hashes.ev (z : Bool) (l : List By) (h : l.length ≤ 1048576) : Ev (fun k => spec_l08Hashes.f k z (l.map By.t)) (areH l) := by
  refine ev_step ?_
  simp only [spec_l08Hashes.f, spec_l08Hashes.b, List.length_map]
  unfold areH
  refine ev_allp (fun k i => spec_l08Hashes.l0 k z (l.map By.t) (l.length : Int) i) l.length _ (fun n hn hp r hr => ?_) (fun n hn hp => ?_) ?_ l.length 0 (by omega)
  · rw [getD_in hn] at hp
    refine ev_step ?_
    simp only [spec_l08Hashes.l0, spec_l08Hashes.l0b, List.length_map, Int.toNat_natCast, by_at hn, By.c0, By.c0z, succ_nat n (by omega)]
    have hp' : l[n].l.length = 32 := by simpa using hp
    exact ev_pos (by omega) (ev_pos (by omega) (ev_pos (by omega) (Ev.bind (spec_l07Hash.ev _ _) (ev_neg (by simp [hp']) hr))))
  · rw [getD_in hn] at hp
    refine ev_step ?_
    simp only [spec_l08Hashes.l0, spec_l08Hashes.l0b, List.length_map, Int.toNat_natCast, by_at hn, By.c0, By.c0z, succ_nat n (by omega)]
    exact ev_pos (by omega) (ev_pos (by omega) (ev_pos (by omega) (Ev.bind (spec_l07Hash.ev _ _) (ev_pos (by simpa using hp) (ev_some rfl)))))
  · refine ev_step ?_
    simp only [spec_l08Hashes.l0, spec_l08Hashes.l0b]
    exact ev_neg (by omega) (ev_some rfl)
def qcOk (a b c d e : Int) (q : QcV) : Bool :=
  limitsOk a b c d e && (isNum q.v && (isNum q.h && (decide (q.blk.length = 32) && (bitsOk q.bits a && (decide (q.tags.length = bitCount q.bits) && areH q.tags)))))
def QcV.nice (q : QcV) : Prop := q.few ∧ q.byt
theorem QcV.nbits {q : QcV} (h : q.nice) : niceB q.bits := ⟨h.1.2.1, h.2.2.1⟩
theorem spec_QcOk.ev (a b c d e : Int) (q : QcV) (h : q.nice) (ha : i64r a) : Ev (fun k => spec_QcOk.f k a b c d e q.v q.h q.bz q.blk q.mz q.bits q.tz (q.tags.map By.t)) (qcOk a b c d e q) := by
  refine ev_step ?_
  simp only [spec_QcOk.f, spec_QcOk.b, List.length_map]
  unfold qcOk
  refine Ev.bind (spec_LimitsOk.ev _ _ _ _ _) (ev_ite (fun c0 => ?_) (fun c0 => ev_some (by simp [c0])))
  rw [c0, Bool.true_and]
  refine Ev.bind (spec_l01Num.ev _) (ev_ite (fun c1 => ?_) (fun c1 => ev_some (by simp [c1])))
  rw [c1, Bool.true_and]
  refine Ev.bind (spec_l01Num.ev _) (ev_ite (fun c2 => ?_) (fun c2 => ev_some (by simp [c2])))
  rw [c2, Bool.true_and]
  refine Ev.bind (spec_l07Hash.ev _ _) (ev_ite (fun c3 => ?_) (fun c3 => ev_some (by simp [c3])))
  rw [decide_eq_true c3, Bool.true_and]
  refine Ev.bind (spec_BitsOk.ev _ _ _ (QcV.nbits h) ha) (ev_ite (fun c4 => ?_) (fun c4 => ev_some (by simp [c4])))
  rw [c4, Bool.true_and]
  refine Ev.bind (spec_BitsCount.ev _ _ (QcV.nbits h)) (ev_ite (fun c5 => ?_) (fun c5 => ev_some ?_))
  · have : q.tags.length = bitCount q.bits := by omega
    rw [decide_eq_true this, Bool.true_and]
    exact Ev.bind (spec_l08Hashes.ev _ _ h.1.2.2.1) (ev_some rfl)
  · have : ¬ q.tags.length = bitCount q.bits := by omega
    simp [this]
theorem impl_QcOk.ev (a b c d e : Int) (q : QcV) (h : q.nice) (ha : i64r a) : Ev (fun k => impl_QcOk.f k a b c d e q.v q.h q.bz q.blk q.mz q.bits q.tz (q.tags.map By.t)) (qcOk a b c d e q) := by
  refine ev_step ?_
  simp only [impl_QcOk.f, impl_QcOk.b, List.length_map]
  unfold qcOk
  refine Ev.bind (impl_LimitsOk.ev _ _ _ _ _) (ev_ite (fun c0 => ?_) (fun c0 => ev_some (by simp [c0])))
  rw [c0, Bool.true_and]
  refine Ev.bind (impl_isNum.ev _) (ev_ite (fun c1 => ?_) (fun c1 => ev_some (by simp [c1])))
  rw [c1, Bool.true_and]
  refine Ev.bind (impl_isNum.ev _) (ev_ite (fun c2 => ?_) (fun c2 => ev_some (by simp [c2])))
  rw [c2, Bool.true_and]
  refine Ev.bind (impl_areHashes.ev1 _ _ _) (ev_ite (fun c3 => ?_) (fun c3 => ev_some (by simp [c3])))
  rw [decide_eq_true c3, Bool.true_and]
  refine Ev.bind (impl_BitsOk.ev _ _ _ (QcV.nbits h) ha) (ev_ite (fun c4 => ?_) (fun c4 => ev_some (by simp [c4])))
  rw [c4, Bool.true_and]
  refine Ev.bind (impl_BitsCount.ev _ _ (QcV.nbits h)) (ev_ite (fun c5 => ?_) (fun c5 => ev_some ?_))
  · have : q.tags.length = bitCount q.bits := by omega
    rw [decide_eq_true this, Bool.true_and]
    exact Ev.bind (impl_areHashes.ev _ _ h.1.2.2.1) (ev_some rfl)
  · have : ¬ q.tags.length = bitCount q.bits := by omega
    simp [this]
theorem Rows.few {l : List Row} (h : Rows l) : l.length ≤ 1048576 := h.1
theorem QcV.few_cp {q : QcV} (h : q.few) : q.cp.few := ⟨h.1, h.2.1, fewB_cp h.2.2⟩
theorem QcV.byt_cp {q : QcV} (h : q.byt) : q.cp.byt := ⟨h.1, h.2.1, fun b hb => by
  obtain ⟨x, hx, rfl⟩ := List.mem_map.1 hb
  exact h.2.2 x hx⟩
end Go.Proofs.YtadnejogdohfkaaG
namespace Go.Proofs.YtadnejogdohfkaaG
open Go Go.Proofs.YtadnejogdohfkaaRv Go.RowKit
set_option linter.unusedVariables false
set_option linter.unusedSimpArgs false

end Go.Proofs.YtadnejogdohfkaaG
namespace Go.Proofs.YtadnejogdohfkaaG
open Go Go.Proofs.YtadnejogdohfkaaRv Go.RowKit
set_option linter.unusedVariables false
set_option linter.unusedSimpArgs false

theorem shr1 (c : Int) : shrI .i64 c 1 = c / 2 := by
  unfold shrI
  rw [show min ((1 : Int).toNat) (IntKind.i64.bits) = 1 from rfl]
  rfl
theorem impl_steps.ev0 : ∀ (d n : Nat) (c : Int), n + d = 8 → 0 ≤ c → c < 4294967296 → Ev (fun k => impl_steps.l0 k c (n : Int)) (crcTurns d c) := by
  intro d
  induction d with
  | zero =>
    intro n c hn h0 h1
    refine ev_step ?_
    simp only [impl_steps.l0, impl_steps.l0b]
    exact ev_neg (by omega) (ev_some rfl)
  | succ d ih =>
    intro n c hn h0 h1
    have b := crcTurn_bd h0 h1
    refine ev_step ?_
    simp only [impl_steps.l0, impl_steps.l0b, shr1]
    rw [and1_i64 h0 h1, w64s (by omega)]
    refine ev_pos (by omega) (ev_ite (fun e => ?_) (fun e => ?_))
    · have := ih (n + 1) _ (by omega) b.1 b.2
      have z : crcTurn c = Go.bits .xor .i64 (c / 2) 3988292384 := if_pos e
      rw [crcTurns]
      rw [z] at this ⊢
      exact this
    · have := ih (n + 1) _ (by omega) b.1 b.2
      have z : crcTurn c = c / 2 := if_neg e
      rw [crcTurns]
      rw [z] at this ⊢
      exact this
theorem impl_steps.ev (c : Int) (h0 : 0 ≤ c) (h1 : c < 4294967296) : Ev (fun k => impl_steps.f k c) (crcTurns 8 c) := by
  refine ev_step ?_
  simp only [impl_steps.f, impl_steps.b]
  exact impl_steps.ev0 8 0 c (by omega) h0 h1
theorem impl_CrcMore.ev0 (z : Bool) (l : List Int) (h : niceB l) : ∀ (d n : Nat) (c : Int), n + d = l.length → 0 ≤ c → c < 4294967296 → Ev (fun k => impl_CrcMore.l0 k c z l (l.length : Int) (n : Int)) (Go.bits .xor .i64 (crcFold c (l.drop n)) 4294967295) := by
  have hl := h.1
  intro d
  induction d with
  | zero =>
    intro n c hn h0 h1
    refine ev_step ?_
    simp only [impl_CrcMore.l0, impl_CrcMore.l0b]
    refine ev_neg (by omega) (ev_some ?_)
    rw [List.drop_of_length_le (by omega)]
    rfl
  | succ d ih =>
    intro n c hn h0 h1
    have hlt : n < l.length := by omega
    have b := rd_nice h (n : Int)
    have g5 : wrap64 (rdI l (n : Int)) = rdI l (n : Int) := w64 (by omega) (by omega)
    have x := xor32 h0 h1 b.1 (show rdI l (n : Int) < 4294967296 by omega)
    have t := crcTurns_bd 8 x.1 x.2
    refine ev_step ?_
    simp only [impl_CrcMore.l0, impl_CrcMore.l0b]
    rw [g5, succ_nat n (by omega), drop_rd hlt, crcFold_cons]
    exact ev_pos (by omega) (ev_pos (by omega) (ev_pos (by omega) (Ev.bind (a := crcStep c (rdI l (n : Int))) (impl_steps.ev _ x.1 x.2) (ih (n + 1) _ (by omega) t.1 t.2))))
theorem impl_Crc.ev (z : Bool) (l : List Int) (h : niceB l) : Ev (fun k => impl_Crc.f k z l) (crcV l) := by
  refine ev_step ?_
  simp only [impl_Crc.f, impl_Crc.b]
  refine ev_step ?_
  simp only [impl_CrcMore.f, impl_CrcMore.b]
  have b := xor32 (a := 0) (b := 4294967295) (by decide) (by decide) (by decide) (by decide)
  refine Ev.bind (a := crcV l) ?_ (ev_some rfl)
  refine Ev.bind (impl_isWord.ev _) (ev_neg (by simp) ?_)
  have := impl_CrcMore.ev0 z l h l.length 0 _ (by omega) b.1 b.2
  rw [List.drop_zero] at this
  exact this
theorem spec_l03Turn.ev (c : Int) (h0 : 0 ≤ c) (h1 : c < 4294967296) : Ev (fun k => spec_l03Turn.f k c) (crcTurn c) := by
  refine ev_step ?_
  simp only [spec_l03Turn.f, spec_l03Turn.b]
  rw [Int.tmod_eq_emod_of_nonneg h0, Int.tdiv_eq_ediv_of_nonneg h0, w64 (n := c / 2) (by omega) (by omega)]
  exact ev_ite (fun e => ev_some (if_pos e).symm) (fun e => ev_some (if_neg e).symm)
theorem spec_CrcMore.ev1 (z : Bool) (l : List Int) (i : Int) : ∀ (d n : Nat) (c : Int) (r : Int), n + d = 8 → 0 ≤ c → c < 4294967296 → Ev (fun k => spec_CrcMore.l0 k (crcTurns d c) z l (l.length : Int) (wrap64 (i + 1))) r → Ev (fun k => spec_CrcMore.l1 k c (n : Int) z l (l.length : Int) i) r := by
  intro d
  induction d with
  | zero =>
    intro n c r hn h0 h1 hr
    refine ev_step ?_
    simp only [spec_CrcMore.l1, spec_CrcMore.l1b]
    exact ev_neg (by omega) hr
  | succ d ih =>
    intro n c r hn h0 h1 hr
    have b := crcTurn_bd h0 h1
    refine ev_step ?_
    simp only [spec_CrcMore.l1, spec_CrcMore.l1b]
    rw [w64s (by omega)]
    exact ev_pos (by omega) (Ev.bind (spec_l03Turn.ev c h0 h1) (ih (n + 1) _ r (by omega) b.1 b.2 hr))
theorem spec_CrcMore.ev0 (z : Bool) (l : List Int) (h : niceB l) : ∀ (d n : Nat) (c : Int), n + d = l.length → 0 ≤ c → c < 4294967296 → Ev (fun k => spec_CrcMore.l0 k c z l (l.length : Int) (n : Int)) (Go.bits .xor .i64 (crcFold c (l.drop n)) 4294967295) := by
  have hl := h.1
  intro d
  induction d with
  | zero =>
    intro n c hn h0 h1
    refine ev_step ?_
    simp only [spec_CrcMore.l0, spec_CrcMore.l0b]
    refine ev_neg (by omega) (ev_some ?_)
    rw [List.drop_of_length_le (by omega)]
    rfl
  | succ d ih =>
    intro n c hn h0 h1
    have hlt : n < l.length := by omega
    have b := rd_nice h (n : Int)
    have g5 : wrap64 (rdI l (n : Int)) = rdI l (n : Int) := w64 (by omega) (by omega)
    have x := xor32 h0 h1 b.1 (show rdI l (n : Int) < 4294967296 by omega)
    have t := crcTurns_bd 8 x.1 x.2
    refine ev_step ?_
    simp only [spec_CrcMore.l0, spec_CrcMore.l0b]
    rw [g5, drop_rd hlt, crcFold_cons]
    refine ev_pos (by omega) (ev_pos (by omega) (ev_pos (by omega) (spec_CrcMore.ev1 z l (n : Int) 8 0 _ _ rfl x.1 x.2 ?_)))
    rw [succ_nat n (by omega)]
    exact ih (n + 1) (crcStep c (rdI l (n : Int))) (by omega) t.1 t.2
theorem spec_Crc.ev (z : Bool) (l : List Int) (h : niceB l) : Ev (fun k => spec_Crc.f k z l) (crcV l) := by
  refine ev_step ?_
  simp only [spec_Crc.f, spec_Crc.b]
  refine ev_step ?_
  simp only [spec_CrcMore.f, spec_CrcMore.b]
  have b := xor32 (a := 0) (b := 4294967295) (by decide) (by decide) (by decide) (by decide)
  refine Ev.bind (a := crcV l) ?_ (ev_some rfl)
  have S : Ev (fun k => spec_l03Sum.f k 0) true := by
    refine ev_step ?_
    simp only [spec_l03Sum.f, spec_l03Sum.b]
    exact Ev.bind (spec_l01In.ev _ _ _) (ev_some (by decide))
  refine Ev.bind S (ev_neg (by simp) ?_)
  have := spec_CrcMore.ev0 z l h l.length 0 _ (by omega) b.1 b.2
  rw [List.drop_zero] at this
  exact this
theorem impl_GetRaw.in (z : Bool) (b : List Int) (hb : b.length ≤ 1073741824) (i n : Nat) (h : i + n ≤ b.length) : Ev (fun k => impl_GetRaw.f k z b (i : Int) (n : Int)) (false, (b.drop i).take n, ((i + n : Nat) : Int), 0) := by
  have e : ((b.take ((i : Int) + (n : Int)).toNat).drop (i : Int).toNat) = (b.drop i).take n := by
    rw [show ((i : Int) + (n : Int)).toNat = i + n by omega, toNat_nat, List.drop_take]
    congr 1
    omega
  refine ev_step ?_
  simp only [impl_GetRaw.f, impl_GetRaw.b]
  rw [w64 (n := (b.length : Int) - i) (by omega) (by omega), w64 (n := (i : Int) + n) (by omega) (by omega), e]
  exact Ev.bind (impl_within.ev _ _ _) (ev_neg (by simp; omega) (Ev.bind (impl_within.ev _ _ _) (ev_neg (by simp; omega) (ev_pos (by omega) (ev_pos (by omega) (ev_pos (by omega) (ev_pos (by omega) (Ev.bind (impl_copyBytes.ev _ _ (by simp; omega)) (ev_some (by simp))))))))))
theorem impl_GetFix.ev0 (z : Bool) (l : List Int) (hl : l.length ≤ 7) (h : ∀ x ∈ l, 0 ≤ x ∧ x < 256) (en co : Int) : ∀ (d i : Nat), i + d = l.length → Ev (fun k => impl_GetFix.l0 k en co (leVal (l.take i)) z l (l.length : Int) (i : Int)) (leVal l, en, co) := by
  intro d
  induction d with
  | zero =>
    intro i hi
    refine ev_step ?_
    simp only [impl_GetFix.l0, impl_GetFix.l0b]
    refine ev_neg (by omega) (ev_some ?_)
    rw [List.take_of_length_le (by omega)]
  | succ d ih =>
    intro i hi
    have hlt : i < l.length := by omega
    have hx := h _ (List.getElem_mem hlt)
    have b := leVal_bd (l.take i) (fun x hx => h x (List.mem_of_mem_take hx))
    rw [List.length_take, Nat.min_eq_left (by omega), pow256] at b
    refine ev_step ?_
    simp only [impl_GetFix.l0, impl_GetFix.l0b]
    rw [rd_nat hlt, w64 (n := l[i]) (by omega) (by omega), w64 (n := 8 * (i : Int)) (by omega) (by omega), w64s (by omega)]
    have e : shlI .i64 (l[i]) (8 * (i : Int)) = l[i] * 2 ^ (8 * i) := by
      have p : (2 : Int) ^ (8 * i) ≤ 2 ^ 48 := by exact_mod_cast Nat.pow_le_pow_right (by decide) (by omega)
      have p0 : (0 : Int) < 2 ^ (8 * i) := Int.pow_pos (by decide)
      unfold shlI
      rw [show (8 * (i : Int)).toNat = 8 * i by omega, Nat.min_eq_left (by show 8 * i ≤ 64; omega)]
      have q : l[i] * 2 ^ (8 * i) ≤ 255 * 2 ^ (8 * i) := Int.mul_le_mul_of_nonneg_right (by omega) (by omega)
      have q0 : 0 ≤ l[i] * 2 ^ (8 * i) := Int.mul_nonneg hx.1 (by omega)
      have e48 : (2 : Int) ^ 48 = 281474976710656 := by decide
      exact wrapsC 63 (by decide) _ q0 (by have e63 : (2 : Int) ^ 63 = 9223372036854775808 := by decide
                                           omega)
    rw [e, or_join (by omega) b.1 b.2 hx.1 hx.2]
    refine ev_pos (by omega) (ev_pos (by omega) (ev_pos (by omega) (ev_pos (by omega) ?_)))
    have := ih (i + 1) (by omega)
    rw [List.take_succ_eq_append_getElem hlt, leVal_snoc, List.length_take, Nat.min_eq_left (by omega), pow256, Int.mul_comm] at this
    exact this
theorem impl_GetFix.in (z : Bool) (b : List Int) (hb : niceB b) (i w : Nat) (hw : 1 ≤ w) (hw' : w ≤ 7) (h : i + w ≤ b.length) : Ev (fun k => impl_GetFix.f k z b (i : Int) (w : Int)) (leVal ((b.drop i).take w), ((i + w : Nat) : Int), 0) := by
  have hl := hb.1
  refine ev_step ?_
  simp only [impl_GetFix.f, impl_GetFix.b]
  refine Ev.bind (impl_within.ev _ _ _) (ev_neg (by simp; omega) (Ev.bind (impl_GetRaw.in z b (by omega) i w h) ?_))
  exact impl_GetFix.ev0 false ((b.drop i).take w) (by simp; omega) (fun x hx => hb.2 x (List.mem_of_mem_drop (List.mem_of_mem_take hx))) ((i + w : Nat) : Int) 0 ((b.drop i).take w).length 0 (by omega)
theorem spec_GetFix.ev0 (z : Bool) (b : List Int) (hb : niceB b) (i w : Nat) (hw : w ≤ 7) (h : i + w ≤ b.length) : ∀ (d : Nat) (acc : Int), d ≤ w → 0 ≤ acc → acc < 256 ^ (w - d) → Ev (fun k => spec_GetFix.l0 k z b (i : Int) (w : Int) acc ((d : Int) - 1)) (acc * 256 ^ d + leVal ((b.drop i).take d), ((i + w : Nat) : Int), 0) := by
  have hl := hb.1
  intro d
  induction d with
  | zero =>
    intro acc hd h0 h1
    refine ev_step ?_
    simp only [spec_GetFix.l0, spec_GetFix.l0b]
    rw [w64 (n := (i : Int) + w) (by omega) (by omega)]
    refine ev_neg (by omega) (ev_some ?_)
    simp [leVal]
  | succ d ih =>
    intro acc hd h0 h1
    have hlt : i + d < b.length := by omega
    have hx := hb.2 _ (List.getElem_mem hlt)
    have p : (256 : Int) ^ (w - d) = 256 ^ (w - (d + 1)) * 256 := by rw [← Int.pow_succ]; congr 1; omega
    have p6 : (256 : Int) ^ (w - (d + 1)) ≤ 256 ^ 6 := pow256_le (by omega)
    have e6 : (256 : Int) ^ 6 = 281474976710656 := by decide
    have e0 : (((d + 1 : Nat) : Int) - 1) = (d : Int) := by omega
    refine ev_step ?_
    simp only [spec_GetFix.l0, spec_GetFix.l0b]
    rw [e0, w64 (n := (i : Int) + d) (by omega) (by omega), show ((i : Int) + (d : Int)) = ((i + d : Nat) : Int) by omega, rd_nat hlt, w64 (n := b[i + d]) (by omega) (by omega), w64 (n := acc * 256) (by omega) (by omega), w64 (n := acc * 256 + b[i + d]) (by omega) (by omega), w64 (n := (d : Int) - 1) (by omega) (by omega)]
    refine ev_pos (by omega) (ev_pos (by omega) (ev_pos (by omega) (ev_to (ih _ (by omega) (by omega) (by omega)) ?_)))
    have e : ((b.drop i).take (d + 1)) = (b.drop i).take d ++ [b[i + d]] := by
      rw [List.take_succ_eq_append_getElem (by simp; omega), List.getElem_drop]
    rw [e, leVal_snoc, List.length_take, List.length_drop, Nat.min_eq_left (by omega), Int.pow_succ, Int.add_mul, Int.mul_assoc, Int.mul_comm 256 (256 ^ d), Int.mul_comm (b[i + d])]
    congr 1
    omega
theorem spec_GetFix.in (z : Bool) (b : List Int) (hb : niceB b) (i w : Nat) (hw : 1 ≤ w) (hw' : w ≤ 7) (h : i + w ≤ b.length) : Ev (fun k => spec_GetFix.f k z b (i : Int) (w : Int)) (leVal ((b.drop i).take w), ((i + w : Nat) : Int), 0) := by
  have hl := hb.1
  refine ev_step ?_
  simp only [spec_GetFix.f, spec_GetFix.b]
  rw [w64 (n := (b.length : Int) - w) (by omega) (by omega), w64 (n := (w : Int) - 1) (by omega) (by omega)]
  refine Ev.bind (spec_l01In.ev _ _ _) (ev_neg (by simp; omega) (ev_neg (by omega) (ev_neg (by omega) ?_)))
  refine ev_to (spec_GetFix.ev0 z b hb i w hw' h w 0 (Nat.le_refl _) (by omega) (by simp)) ?_
  simp
theorem impl_FrameAt.ev (a b c d e : Int) (z : Bool) (s : List Int) (i : Nat) (hs : niceB s) (hi : i ≤ s.length) : Ev (fun k => impl_FrameAt.f k a b c d e z s (i : Int)) (frameAt (limitsOk a b c d e) d s i) := by
  have hl := hs.1
  refine ev_step ?_
  simp only [impl_FrameAt.f, impl_FrameAt.b]
  rw [w64 (n := (s.length : Int) - 1) (by omega) (by omega), w64s (by omega), w64 (n := (s.length : Int) - i) (by omega) (by omega)]
  refine Ev.bind (impl_LimitsOk.ev _ _ _ _ _) (ev_ite (fun c1 => ev_some (if_pos (Or.inl (by simpa using c1))).symm) (fun c1 => ?_))
  have c1 : limitsOk a b c d e = true := by simpa using c1
  refine Ev.bind (impl_within.ev _ _ _) (ev_ite (fun c2 => ev_some (if_pos (Or.inr (Or.inl (by simp at c2; omega)))).symm) (fun c2 => ?_))
  have c2 : 0 ≤ (i : Int) ∧ (i : Int) ≤ (s.length : Int) - 1 := by simpa using c2
  refine ev_pos (by omega) (ev_pos (by omega) ?_)
  refine ev_ite (fun c3 => ev_some (if_pos (Or.inr (Or.inr (Or.inl (by simpa using c3))))).symm) (fun c3 => ?_)
  have c3 : rdI s (i : Int) = 181 := by simpa using c3
  have yes : ¬(i + 1 < s.length ∧ rdI s ((i + 1 : Nat) : Int) ≠ 70) → Ev (fun k => impl_FrameAt.l0 k z s (i : Int) a b c d e) (frameAt (limitsOk a b c d e) d s i) := by
    intro c4
    have zz : ¬(limitsOk a b c d e = false ∨ s.length ≤ i ∨ rdI s (i : Int) ≠ 181 ∨ (i + 1 < s.length ∧ rdI s ((i + 1 : Nat) : Int) ≠ 70)) := by
      rintro (g | g | g | g)
      · rw [c1] at g; cases g
      · omega
      · exact g c3
      · exact c4 g
    unfold frameAt
    rw [if_neg zz]
    refine ev_step ?_
    simp only [impl_FrameAt.l0, impl_FrameAt.l0b]
    rw [w64 (n := (s.length : Int) - i) (by omega) (by omega), w64 (n := (i : Int) + 2) (by omega) (by omega), w64 (n := (i : Int) + 4) (by omega) (by omega), w64 (n := (i : Int) + 8) (by omega) (by omega)]
    refine ev_ite (fun c5 => ev_some (by rw [if_pos (by omega)])) (fun c5 => ?_)
    rw [if_neg (by omega), show ((i : Int) + 2) = ((i + 2 : Nat) : Int) by omega, show ((i : Int) + 4) = ((i + 4 : Nat) : Int) by omega]
    refine Ev.bind (impl_GetFix.in z s hs (i + 2) 2 (by omega) (by omega) (by omega)) ?_
    generalize hn : leVal ((s.drop (i + 2)).take 2) = n
    have hd : d ≤ 4000 := by
      simp [limitsOk] at c1
      omega
    refine Ev.bind (impl_within.ev _ _ _) (ev_ite (fun c6 => ev_some (by rw [if_pos (by simpa using c6)])) (fun c6 => ?_))
    have c6 : 1 ≤ n ∧ n ≤ d := by simpa using c6
    rw [if_neg (by omega)]
    simp only []
    rw [w64 (n := 8 + n) (by omega) (by omega), w64 (n := (i : Int) + 8 + n) (by omega) (by omega)]
    refine ev_ite (fun c7 => ev_some (by rw [if_pos (by omega)])) (fun c7 => ?_)
    rw [if_neg (by omega)]
    refine Ev.bind (impl_GetFix.in z s hs (i + 4) 4 (by omega) (by omega) (by omega)) ?_
    refine ev_pos (by omega) (ev_pos (by omega) (ev_pos (by omega) (ev_pos (by omega) ?_)))
    have e8 : ((s.take ((i : Int) + 8 + n).toNat).drop ((i : Int) + 8).toNat) = (s.drop (i + 8)).take n.toNat := by
      rw [show ((i : Int) + 8 + n).toNat = (i + 8) + n.toNat by omega, show ((i : Int) + 8).toNat = i + 8 by omega, List.drop_take]
      congr 1
      omega
    rw [e8]
    refine Ev.bind (impl_Crc.ev _ _ (niceB_take (niceB_drop hs _) _)) (ev_ite (fun c8 => ev_some (by rw [if_neg (by simpa using c8)])) (fun c8 => ev_some (by rw [if_pos (by simpa using c8)])))
  refine ev_ite (fun c4 => ?_) (fun c4 => yes (by omega))
  refine ev_pos (by omega) (ev_pos (by omega) (ev_ite (fun c5 => ev_some (if_pos (Or.inr (Or.inr (Or.inr ⟨by omega, by simpa using c5⟩)))).symm) (fun c5 => yes fun g => g.2 (by simpa using c5))))
theorem spec_FrameAt.ev (a b c d e : Int) (z : Bool) (s : List Int) (i : Nat) (hs : niceB s) (hi : i ≤ s.length) : Ev (fun k => spec_FrameAt.f k a b c d e z s (i : Int)) (frameAt (limitsOk a b c d e) d s i) := by
  have hl := hs.1
  refine ev_step ?_
  simp only [spec_FrameAt.f, spec_FrameAt.b]
  rw [w64 (n := (s.length : Int) - 1) (by omega) (by omega), w64s (by omega)]
  refine Ev.bind (spec_LimitsOk.ev _ _ _ _ _) (ev_ite (fun c1 => ev_some (if_pos (Or.inl (by simpa using c1))).symm) (fun c1 => ?_))
  have c1 : limitsOk a b c d e = true := by simpa using c1
  refine Ev.bind (spec_l01In.ev _ _ _) (ev_ite (fun c2 => ev_some (if_pos (Or.inr (Or.inl (by simp at c2; omega)))).symm) (fun c2 => ?_))
  have c2 : 0 ≤ (i : Int) ∧ (i : Int) ≤ (s.length : Int) - 1 := by simpa using c2
  refine ev_pos (by omega) (ev_pos (by omega) ?_)
  refine ev_ite (fun c3 => ev_some (if_pos (Or.inr (Or.inr (Or.inl (by simpa using c3))))).symm) (fun c3 => ?_)
  have c3 : rdI s (i : Int) = 181 := by simpa using c3
  have yes : ¬(i + 1 < s.length ∧ rdI s ((i + 1 : Nat) : Int) ≠ 70) → Ev (fun k => spec_FrameAt.l0 k z s (i : Int) a b c d e) (frameAt (limitsOk a b c d e) d s i) := by
    intro c4
    have zz : ¬(limitsOk a b c d e = false ∨ s.length ≤ i ∨ rdI s (i : Int) ≠ 181 ∨ (i + 1 < s.length ∧ rdI s ((i + 1 : Nat) : Int) ≠ 70)) := by
      rintro (g | g | g | g)
      · rw [c1] at g; cases g
      · omega
      · exact g c3
      · exact c4 g
    unfold frameAt
    rw [if_neg zz]
    refine ev_step ?_
    simp only [spec_FrameAt.l0, spec_FrameAt.l0b]
    rw [w64 (n := (s.length : Int) - i) (by omega) (by omega), w64 (n := (i : Int) + 2) (by omega) (by omega), w64 (n := (i : Int) + 4) (by omega) (by omega), w64 (n := (i : Int) + 8) (by omega) (by omega)]
    refine ev_ite (fun c5 => ev_some (by rw [if_pos (by omega)])) (fun c5 => ?_)
    rw [if_neg (by omega), show ((i : Int) + 2) = ((i + 2 : Nat) : Int) by omega, show ((i : Int) + 4) = ((i + 4 : Nat) : Int) by omega]
    refine Ev.bind (spec_GetFix.in z s hs (i + 2) 2 (by omega) (by omega) (by omega)) ?_
    generalize hn : leVal ((s.drop (i + 2)).take 2) = n
    have hd : d ≤ 4000 := by
      simp [limitsOk] at c1
      omega
    refine Ev.bind (spec_l01In.ev _ _ _) (ev_ite (fun c6 => ev_some (by rw [if_pos (by simpa using c6)])) (fun c6 => ?_))
    have c6 : 1 ≤ n ∧ n ≤ d := by simpa using c6
    rw [if_neg (by omega)]
    simp only []
    rw [w64 (n := 8 + n) (by omega) (by omega), w64 (n := (i : Int) + 8 + n) (by omega) (by omega)]
    refine ev_ite (fun c7 => ev_some (by rw [if_pos (by omega)])) (fun c7 => ?_)
    rw [if_neg (by omega)]
    refine Ev.bind (spec_GetFix.in z s hs (i + 4) 4 (by omega) (by omega) (by omega)) ?_
    refine ev_pos (by omega) (ev_pos (by omega) (ev_pos (by omega) (ev_pos (by omega) ?_)))
    have e8 : ((s.take ((i : Int) + 8 + n).toNat).drop ((i : Int) + 8).toNat) = (s.drop (i + 8)).take n.toNat := by
      rw [show ((i : Int) + 8 + n).toNat = (i + 8) + n.toNat by omega, show ((i : Int) + 8).toNat = i + 8 by omega, List.drop_take]
      congr 1
      omega
    rw [e8]
    refine Ev.bind (spec_Crc.ev _ _ (niceB_take (niceB_drop hs _) _)) (ev_ite (fun c8 => ev_some (by rw [if_neg (by simpa using c8)])) (fun c8 => ev_some (by rw [if_pos (by simpa using c8)])))
  refine ev_ite (fun c4 => ?_) (fun c4 => yes (by omega))
  refine ev_pos (by omega) (ev_pos (by omega) (ev_ite (fun c5 => ev_some (if_pos (Or.inr (Or.inr (Or.inr ⟨by omega, by simpa using c5⟩)))).symm) (fun c5 => yes fun g => g.2 (by simpa using c5))))
theorem impl_PushOk.ev (a b c d e sk : Int) (z : Bool) (buf : List Int) (h : niceB buf) : Ev (fun k => impl_PushOk.f k a b c d e sk z buf) (pushOk (limitsOk a b c d e) d sk buf) := by
  refine ev_step ?_
  simp only [impl_PushOk.f, impl_PushOk.b]
  unfold pushOk
  refine Ev.bind (impl_FrameAt.ev a b c d e z buf 0 h (by omega)) (Ev.bind (impl_LimitsOk.ev _ _ _ _ _) ?_)
  refine ev_ite (fun c1 => ?_) (fun c1 => ev_some (by simp [c1]))
  refine Ev.bind (impl_isNum.ev _) (ev_ite (fun c2 => ?_) (fun c2 => ev_some (by simp [c2])))
  refine ev_ite (fun c3 => ev_some ?_) (fun c3 => ev_some ?_)
  · have : buf = [] := List.length_eq_zero_iff.1 (by omega)
    simp [this, c1, c2]
  · have : buf ≠ [] := by intro z; rw [z] at c3; simp at c3
    simp [this, c1, c2]
    rfl
theorem spec_PushOk.ev (a b c d e sk : Int) (z : Bool) (buf : List Int) (h : niceB buf) : Ev (fun k => spec_PushOk.f k a b c d e sk z buf) (pushOk (limitsOk a b c d e) d sk buf) := by
  refine ev_step ?_
  simp only [spec_PushOk.f, spec_PushOk.b]
  unfold pushOk
  refine Ev.bind (spec_LimitsOk.ev _ _ _ _ _) (ev_ite (fun c1 => ev_some ?_) (fun c1 => ?_))
  · have : limitsOk a b c d e = false := by simpa using c1
    simp [this]
  have c1 : limitsOk a b c d e = true := by simpa using c1
  refine Ev.bind (spec_l01Num.ev _) (ev_ite (fun c2 => ev_some ?_) (fun c2 => ?_))
  · have : isNum sk = false := by simpa using c2
    simp [this]
  have c2 : isNum sk = true := by simpa using c2
  refine Ev.bind (spec_FrameAt.ev a b c d e z buf 0 h (by omega)) ?_
  refine ev_ite (fun c3 => ev_some ?_) (fun c3 => ev_some ?_)
  · have : buf = [] := List.length_eq_zero_iff.1 (by omega)
    simp [this, c1, c2]
  · have : buf ≠ [] := by intro z; rw [z] at c3; simp at c3
    simp [this, c1, c2]
    rfl


def fits (x : Head) : Bool := decide (x.q.v < x.v) && (decide (x.q.h = wrap64 (x.h - 1)) && sameB x.q.blk x.par)
def headOk (a b c d e : Int) (x : Head) : Bool :=
  qcOk a b c d e x.q && (isNum x.v && (decide (1 ≤ x.h ∧ x.h ≤ 1152921504606846975) && (decide (0 ≤ x.p ∧ x.p ≤ wrap64 (a - 1)) && ((decide (x.par.length = 32) && decide (x.root.length = 32)) && fits x))))
def Head.nice (x : Head) : Prop := x.few ∧ x.byt
theorem impl_HeadOk.ev (a b c d e : Int) (ha : i64r a) (x : Head) (h : x.nice) : Ev (fun k => impl_HeadOk.f k a b c d e x.v x.h x.p x.az x.par x.rz x.root x.q.v x.q.h x.q.bz x.q.blk x.q.mz x.q.bits x.q.tz (x.q.tags.map By.t)) (headOk a b c d e x) := by
  have hq : x.q.nice := ⟨h.1.2.2, h.2.2.2⟩
  have M : Ev (fun k => impl_Head_matches.f k x.v x.h x.p x.az x.par x.rz x.root x.q.v x.q.h x.q.bz x.q.blk x.q.mz x.q.bits x.q.tz (x.q.tags.map By.t)) (fits x) := by
    refine ev_step ?_
    simp only [impl_Head_matches.f, impl_Head_matches.b]
    unfold fits
    refine ev_ite (fun c1 => ev_ite (fun c2 => Ev.bind (impl_SameBytes.ev _ _ _ _) (ev_some (by simp [c1, c2]))) (fun c2 => ev_some (by simp [c2]))) (fun c1 => ev_some (by simp [c1]))
  refine ev_step ?_
  simp only [impl_HeadOk.f, impl_HeadOk.b]
  unfold headOk
  refine Ev.bind (impl_QcOk.ev a b c d e x.q hq ha) (ev_ite (fun c0 => ?_) (fun c0 => ev_some (by simp [c0])))
  rw [c0, Bool.true_and]
  refine Ev.bind (impl_isNum.ev _) (ev_ite (fun c1 => ?_) (fun c1 => ev_some (by simp [c1])))
  rw [c1, Bool.true_and]
  refine Ev.bind (impl_within.ev _ _ _) (ev_ite (fun c2 => ?_) (fun c2 => ev_some (by rw [decide_eq_false c2]; rfl)))
  rw [decide_eq_true c2, Bool.true_and]
  refine Ev.bind (impl_within.ev _ _ _) (ev_ite (fun c3 => ?_) (fun c3 => ev_some (by rw [decide_eq_false c3]; rfl)))
  rw [decide_eq_true c3, Bool.true_and]
  refine Ev.bind (impl_areHashes.ev2 _ _ _ _ _) (ev_ite (fun c4 => ?_) (fun c4 => ev_some (by simp only [Bool.not_eq_true] at c4; rw [c4]; rfl)))
  rw [c4, Bool.true_and]
  exact Ev.bind M (ev_some rfl)
theorem spec_HeadOk.ev (a b c d e : Int) (ha : i64r a) (x : Head) (h : x.nice) : Ev (fun k => spec_HeadOk.f k a b c d e x.v x.h x.p x.az x.par x.rz x.root x.q.v x.q.h x.q.bz x.q.blk x.q.mz x.q.bits x.q.tz (x.q.tags.map By.t)) (headOk a b c d e x) := by
  have hq : x.q.nice := ⟨h.1.2.2, h.2.2.2⟩
  have M : Ev (fun k => spec_l13Fits.f k x.v x.h x.p x.az x.par x.rz x.root x.q.v x.q.h x.q.bz x.q.blk x.q.mz x.q.bits x.q.tz (x.q.tags.map By.t)) (fits x) := by
    refine ev_step ?_
    simp only [spec_l13Fits.f, spec_l13Fits.b]
    unfold fits
    refine ev_ite (fun c1 => ev_ite (fun c2 => Ev.bind (spec_SameBytes.ev _ _ _ _) (ev_some (by simp [c1, c2]))) (fun c2 => ev_some (by simp [c2]))) (fun c1 => ev_some (by simp [c1]))
  have lq : limitsOk a b c d e = false → qcOk a b c d e x.q = false := fun h => by simp [qcOk, h]
  refine ev_step ?_
  simp only [spec_HeadOk.f, spec_HeadOk.b]
  unfold headOk
  refine Ev.bind (spec_LimitsOk.ev _ _ _ _ _) (ev_ite (fun c0 => ?_) (fun c0 => ev_some (by rw [lq (by simpa using c0)]; rfl)))
  refine Ev.bind (spec_l01Num.ev _) (ev_ite (fun c1 => ?_) (fun c1 => ev_some (by simp [c1])))
  rw [c1, Bool.true_and]
  refine Ev.bind (spec_l01In.ev _ _ _) (ev_ite (fun c2 => ?_) (fun c2 => ev_some (by rw [decide_eq_false c2]; simp)))
  rw [decide_eq_true c2, Bool.true_and]
  refine Ev.bind (spec_l01In.ev _ _ _) (ev_ite (fun c3 => ?_) (fun c3 => ev_some (by rw [decide_eq_false c3]; simp)))
  rw [decide_eq_true c3, Bool.true_and]
  refine Ev.bind (spec_l07Hash.ev _ _) (ev_ite (fun c4 => ?_) (fun c4 => ev_some (by rw [decide_eq_false c4]; simp)))
  rw [decide_eq_true c4, Bool.true_and]
  refine Ev.bind (spec_l07Hash.ev _ _) (ev_ite (fun c5 => ?_) (fun c5 => ev_some (by rw [decide_eq_false c5]; simp)))
  rw [decide_eq_true c5, Bool.true_and]
  refine Ev.bind (spec_QcOk.ev a b c d e x.q hq ha) (ev_ite (fun c6 => ?_) (fun c6 => ev_some (by simp [c6])))
  rw [c6, Bool.true_and]
  exact Ev.bind M (ev_some rfl)


def chOk (a b c d e : Int) (l : List Head) (i : Nat) : Bool := headOk a b c d e (l.getD i default) && (decide (i = 0) || decide ((l.getD (i - 1) default).h < (l.getD i default).h))
def lightOk (x : Light) : Bool :=
  belongs x.l0 x.l1 x.l2 x.l3 x.l4 x.rows && (pushOk (limitsOk x.l0 x.l1 x.l2 x.l3 x.l4) x.l3 x.skip x.buf && (decide (x.chain.length ≤ 8) && allFrom (chOk x.l0 x.l1 x.l2 x.l3 x.l4 x.chain) 0 x.chain.length))
theorem head_prev {l : List Head} {n : Nat} (h : n < l.length) (hl : l.length ≤ 1048576) (h0 : 0 < n) : ((l.map Head.t).getD (wrap64 ((n : Int) - 1)).toNat .bad) = (l.getD (n - 1) default).t := by
  rw [w64p (by omega) h0, Int.toNat_natCast, head_at (by omega), getD_in (by omega)]
def NiceH (l : List Head) : Prop := l.length ≤ 1048576 ∧ ∀ x ∈ l, x.nice
theorem impl_LightOk.ev (x : Light) (ha : i64r x.l0) (hr : x.rows.length ≤ 1048576) (hb : niceB x.buf) (hc : NiceH x.chain) : Ev (fun k => impl_LightOk.f k x.l0 x.l1 x.l2 x.l3 x.l4 x.rz (x.rows.map Row.t) x.skip x.bz x.buf x.cz (x.chain.map Head.t)) (lightOk x) := by
  have hl := hc.1
  refine ev_step ?_
  simp only [impl_LightOk.f, impl_LightOk.b, List.length_map]
  unfold lightOk
  have tail : Ev (fun k => impl_LightOk.l0 k x.cz (x.chain.map Head.t) (x.chain.length : Int) (x.chain.length : Int) x.l0 x.l1 x.l2 x.l3 x.l4 x.rz (x.rows.map Row.t) x.skip x.bz x.buf x.cz (x.chain.map Head.t)) (belongs x.l0 x.l1 x.l2 x.l3 x.l4 x.rows && (pushOk (limitsOk x.l0 x.l1 x.l2 x.l3 x.l4) x.l3 x.skip x.buf && decide (x.chain.length ≤ 8))) := by
    refine ev_step ?_
    simp only [impl_LightOk.l0, impl_LightOk.l0b, List.length_map]
    refine ev_neg (by omega) (Ev.bind (impl_belongs.ev _ _ _ _ _ _ _ hr) (ev_ite (fun c0 => ?_) (fun c0 => ev_some (by simp [c0]))))
    rw [c0, Bool.true_and]
    refine Ev.bind (impl_PushOk.ev _ _ _ _ _ _ _ _ hb) (ev_ite (fun c1 => ev_some ?_) (fun c1 => ev_some (by simp [c1])))
    rw [c1, Bool.true_and]
    exact decide_eq_decide.2 (by omega)
  cases e : (belongs x.l0 x.l1 x.l2 x.l3 x.l4 x.rows && (pushOk (limitsOk x.l0 x.l1 x.l2 x.l3 x.l4) x.l3 x.skip x.buf && decide (x.chain.length ≤ 8))) with
  | false =>
    rw [e] at tail
    have e2 : (belongs x.l0 x.l1 x.l2 x.l3 x.l4 x.rows && (pushOk (limitsOk x.l0 x.l1 x.l2 x.l3 x.l4) x.l3 x.skip x.buf && (decide (x.chain.length ≤ 8) && allFrom (chOk x.l0 x.l1 x.l2 x.l3 x.l4 x.chain) 0 x.chain.length))) = false := by
      rw [← Bool.and_assoc (pushOk _ _ _ _), ← Bool.and_assoc (belongs _ _ _ _ _ _), e]; rfl
    rw [e2]
    refine ev_all x.chain.length (fun k i => impl_LightOk.l0 k x.cz (x.chain.map Head.t) (x.chain.length : Int) i x.l0 x.l1 x.l2 x.l3 x.l4 x.rz (x.rows.map Row.t) x.skip x.bz x.buf x.cz (x.chain.map Head.t)) false (fun n hn hr => ?_) tail x.chain.length 0 (by omega)
    refine ev_step ?_
    simp only [impl_LightOk.l0, impl_LightOk.l0b, List.length_map, Int.toNat_natCast, head_at hn, Head.c0, Head.c1, Head.c2, Head.c3, Head.c3z, Head.c4, Head.c4z, Head.c5, Head.c6, Head.c7, Head.c7z, Head.c8, Head.c8z, Head.c9, Head.c9z, succ_nat n (by omega)]
    refine ev_pos (by omega) (ev_pos (by omega) (ev_pos (by omega) (Ev.bind (impl_HeadOk.ev _ _ _ _ _ ha _ (hc.2 _ (List.getElem_mem hn))) (ev_ite (fun q1 => ev_some rfl) (fun q1 => ev_ite (fun q => ?_) (fun q => hr))))))
    have q' : 0 < n := by omega
    rw [head_prev hn hl q', Head.c1, w64p (by omega) q']
    exact ev_pos (by omega) (ev_pos (by omega) (ev_ite (fun _ => ev_some rfl) (fun _ => hr)))
  | true =>
    rw [e] at tail
    have e2 : (belongs x.l0 x.l1 x.l2 x.l3 x.l4 x.rows && (pushOk (limitsOk x.l0 x.l1 x.l2 x.l3 x.l4) x.l3 x.skip x.buf && (decide (x.chain.length ≤ 8) && allFrom (chOk x.l0 x.l1 x.l2 x.l3 x.l4 x.chain) 0 x.chain.length))) = allFrom (chOk x.l0 x.l1 x.l2 x.l3 x.l4 x.chain) 0 x.chain.length := by
      rw [← Bool.and_assoc (pushOk _ _ _ _), ← Bool.and_assoc (belongs _ _ _ _ _ _), e, Bool.true_and]
    rw [e2]
    refine ev_allp (fun k i => impl_LightOk.l0 k x.cz (x.chain.map Head.t) (x.chain.length : Int) i x.l0 x.l1 x.l2 x.l3 x.l4 x.rz (x.rows.map Row.t) x.skip x.bz x.buf x.cz (x.chain.map Head.t)) x.chain.length _ (fun n hn hp r hr => ?_) (fun n hn hp => ?_) tail x.chain.length 0 (by omega)
    · unfold chOk at hp
      rw [getD_in hn] at hp
      simp only [Bool.and_eq_true, Bool.or_eq_true, decide_eq_true_eq] at hp
      refine ev_step ?_
      simp only [impl_LightOk.l0, impl_LightOk.l0b, List.length_map, Int.toNat_natCast, head_at hn, Head.c0, Head.c1, Head.c2, Head.c3, Head.c3z, Head.c4, Head.c4z, Head.c5, Head.c6, Head.c7, Head.c7z, Head.c8, Head.c8z, Head.c9, Head.c9z, succ_nat n (by omega)]
      refine ev_pos (by omega) (ev_pos (by omega) (ev_pos (by omega) (Ev.bind (impl_HeadOk.ev _ _ _ _ _ ha _ (hc.2 _ (List.getElem_mem hn))) (ev_neg (by simp [hp.1]) (ev_ite (fun q => ?_) (fun q => hr))))))
      have q' : 0 < n := by omega
      rw [head_prev hn hl q', Head.c1, w64p (by omega) q']
      refine ev_pos (by omega) (ev_pos (by omega) (ev_neg ?_ hr))
      rcases hp.2 with p | p <;> omega
    · unfold chOk at hp
      rw [getD_in hn] at hp
      simp only [Bool.and_eq_false_iff, Bool.or_eq_false_iff, decide_eq_false_iff_not] at hp
      refine ev_step ?_
      simp only [impl_LightOk.l0, impl_LightOk.l0b, List.length_map, Int.toNat_natCast, head_at hn, Head.c0, Head.c1, Head.c2, Head.c3, Head.c3z, Head.c4, Head.c4z, Head.c5, Head.c6, Head.c7, Head.c7z, Head.c8, Head.c8z, Head.c9, Head.c9z, succ_nat n (by omega)]
      refine ev_pos (by omega) (ev_pos (by omega) (ev_pos (by omega) (Ev.bind (impl_HeadOk.ev _ _ _ _ _ ha _ (hc.2 _ (List.getElem_mem hn))) (ev_ite (fun q1 => ev_some rfl) (fun q1 => ?_)))))
      have q2 : ¬ n = 0 ∧ ¬ (x.chain.getD (n - 1) default).h < x.chain[n].h := by
        rcases hp with h | h
        · exact absurd h (by simpa using q1)
        · exact h
      have q' : 0 < n := by omega
      refine ev_pos (by omega) ?_
      rw [head_prev hn hl q', Head.c1, w64p (by omega) q']
      exact ev_pos (by omega) (ev_pos (by omega) (ev_pos (by omega) (ev_some rfl)))
theorem spec_LightOk.ev (x : Light) (ha : i64r x.l0) (hr : x.rows.length ≤ 1048576) (hb : niceB x.buf) (hc : NiceH x.chain) : Ev (fun k => spec_LightOk.f k x.l0 x.l1 x.l2 x.l3 x.l4 x.rz (x.rows.map Row.t) x.skip x.bz x.buf x.cz (x.chain.map Head.t)) (lightOk x) := by
  have hl := hc.1
  refine ev_step ?_
  simp only [spec_LightOk.f, spec_LightOk.b, List.length_map]
  unfold lightOk
  refine Ev.bind (spec_l23Goes.ev _ _ _ _ _ _ _ hr) (ev_ite (fun c0 => ev_some ?_) (fun c0 => ?_))
  · have : belongs x.l0 x.l1 x.l2 x.l3 x.l4 x.rows = false := by simpa using c0
    simp [this]
  have c0 : belongs x.l0 x.l1 x.l2 x.l3 x.l4 x.rows = true := by simpa using c0
  rw [c0, Bool.true_and]
  refine Ev.bind (spec_PushOk.ev _ _ _ _ _ _ _ _ hb) (ev_ite (fun c1 => ev_some ?_) (fun c1 => ?_))
  · have : pushOk (limitsOk x.l0 x.l1 x.l2 x.l3 x.l4) x.l3 x.skip x.buf = false := by simpa using c1
    simp [this]
  have c1 : pushOk (limitsOk x.l0 x.l1 x.l2 x.l3 x.l4) x.l3 x.skip x.buf = true := by simpa using c1
  rw [c1, Bool.true_and]
  refine ev_ite (fun c2 => ev_some ?_) (fun c2 => ?_)
  · rw [decide_eq_false (by omega)]; rfl
  rw [decide_eq_true (by omega), Bool.true_and]
  refine ev_allp (fun k i => spec_LightOk.l0 k x.cz (x.chain.map Head.t) (x.chain.length : Int) i x.l0 x.l1 x.l2 x.l3 x.l4 x.rz (x.rows.map Row.t) x.skip x.bz x.buf x.cz (x.chain.map Head.t)) x.chain.length _ (fun n hn hp r hr => ?_) (fun n hn hp => ?_) ?_ x.chain.length 0 (by omega)
  · unfold chOk at hp
    rw [getD_in hn] at hp
    simp only [Bool.and_eq_true, Bool.or_eq_true, decide_eq_true_eq] at hp
    refine ev_step ?_
    simp only [spec_LightOk.l0, spec_LightOk.l0b, List.length_map, Int.toNat_natCast, head_at hn, Head.c0, Head.c1, Head.c2, Head.c3, Head.c3z, Head.c4, Head.c4z, Head.c5, Head.c6, Head.c7, Head.c7z, Head.c8, Head.c8z, Head.c9, Head.c9z, succ_nat n (by omega)]
    refine ev_pos (by omega) (ev_pos (by omega) (ev_pos (by omega) (Ev.bind (spec_HeadOk.ev _ _ _ _ _ ha _ (hc.2 _ (List.getElem_mem hn))) (ev_neg (by simp [hp.1]) (ev_ite (fun q => ?_) (fun q => hr))))))
    have q' : 0 < n := by omega
    rw [head_prev hn hl q', Head.c1, w64p (by omega) q']
    refine ev_pos (by omega) (ev_pos (by omega) (ev_neg ?_ hr))
    rcases hp.2 with p | p <;> omega
  · unfold chOk at hp
    rw [getD_in hn] at hp
    simp only [Bool.and_eq_false_iff, Bool.or_eq_false_iff, decide_eq_false_iff_not] at hp
    refine ev_step ?_
    simp only [spec_LightOk.l0, spec_LightOk.l0b, List.length_map, Int.toNat_natCast, head_at hn, Head.c0, Head.c1, Head.c2, Head.c3, Head.c3z, Head.c4, Head.c4z, Head.c5, Head.c6, Head.c7, Head.c7z, Head.c8, Head.c8z, Head.c9, Head.c9z, succ_nat n (by omega)]
    refine ev_pos (by omega) (ev_pos (by omega) (ev_pos (by omega) (Ev.bind (spec_HeadOk.ev _ _ _ _ _ ha _ (hc.2 _ (List.getElem_mem hn))) (ev_ite (fun q1 => ev_some rfl) (fun q1 => ?_)))))
    have q2 : ¬ n = 0 ∧ ¬ (x.chain.getD (n - 1) default).h < x.chain[n].h := by
      rcases hp with h | h
      · exact absurd h (by simpa using q1)
      · exact h
    have q' : 0 < n := by omega
    refine ev_pos (by omega) ?_
    rw [head_prev hn hl q', Head.c1, w64p (by omega) q']
    exact ev_pos (by omega) (ev_pos (by omega) (ev_pos (by omega) (ev_some rfl)))
  · refine ev_step ?_
    simp only [spec_LightOk.l0, spec_LightOk.l0b, List.length_map]
    exact ev_neg (by omega) (ev_some rfl)
theorem Head.byt_cp {x : Head} (h : x.byt) : x.cp.byt := ⟨h.1, h.2.1, QcV.byt_cp h.2.2⟩
theorem niceH_cp {l : List Head} (h : FewH l) (hb : BytH l) : NiceH (l.map Head.cp) := ⟨by simpa using h.1, fun x hx => by
  obtain ⟨y, hy, rfl⟩ := List.mem_map.1 hx
  exact ⟨Head.few_cp (h.2 y hy), Head.byt_cp (hb y hy)⟩⟩
theorem laws_FnExactLightOk.ev (x : Light) (ha : i64r x.l0) (hx : x.fit) (hb : bytesOk x.buf) (hc : BytH x.chain) : Ev (fun k => laws_FnExactLightOk.f k x.l0 x.l1 x.l2 x.l3 x.l4 x.rz (x.rows.map Row.t) x.skip x.bz x.buf x.cz (x.chain.map Head.t)) true := by
  refine ev_step ?_
  simp only [laws_FnExactLightOk.f, laws_FnExactLightOk.b]
  obtain ⟨r, e1, s⟩ := laws_szLight.ev x hx 1048576 (by omega) (by omega)
  rcases s with rfl | ⟨s1, s2, few⟩
  · exact Ev.bind e1 (ev_pos (by omega) (ev_some rfl))
  refine Ev.bind e1 (ev_neg (by omega) ?_)
  have T := laws_toLight.ev x few
  have few2 := Light.fewCp few
  have A : niceB x.cp.buf := ⟨few2.2.1, hb⟩
  have B : NiceH x.cp.chain := niceH_cp few.2.2 hc
  exact Ev.bind T (Ev.bind (spec_LightOk.ev x.cp ha few2.1.1 A B) (Ev.bind T (Ev.bind (impl_LightOk.ev x.cp ha few2.1.1 A B) (ev_neg (by simp) (Ev.bind T (Ev.bind (laws_eqLight.ev x.cp few2) (ev_neg (by simp) (ev_some rfl))))))))
theorem laws_FnExactLightOk.top (x0 : Light) (g0 : Light.good x0) : Ev (fun k => laws_FnExactLightOk.f k x0.l0 x0.l1 x0.l2 x0.l3 x0.l4 x0.rz (x0.rows.map Row.t) x0.skip x0.bz x0.buf x0.cz (x0.chain.map Head.t)) true :=
  laws_FnExactLightOk.ev x0 (goodI_bd g0.1.1) (Light.fit_of g0) (By.bytes g0.2.2.1.2) (bytH_of g0.2.2.2)
end Go.Proofs.YtadnejogdohfkaaG
