/- What the printed forms answer, over numbers and lists alone. Each lemma names its conditions. -/
import Derived.Test.YtjffolalgcmhaaaGreatDoorGFnExactMsgTexte
import Derived.Lib.ItoaNum
import Derived.Lib.Join
namespace Go.Proofs.YtjffolalgcmhaaaGreatDoorG
open Go Go.Proofs.YtjffolalgcmhaaaGreatDoorRv Go.RowKit
set_option linter.unusedVariables false
set_option linter.unusedSimpArgs false


theorem impl_within.ev (a b c : Int) : Ev (fun k => impl_within.f k a b c) (decide (b ≤ a ∧ a ≤ c)) := by
  refine ev_step ?_
  simp only [impl_within.f, impl_within.b]
  exact ev_ite (fun h => ev_some (by simp [h])) (fun h => ev_some (by simp [h]))
theorem spec_l01In.ev (a b c : Int) : Ev (fun k => spec_l01In.f k a b c) (decide (b ≤ a ∧ a ≤ c)) := by
  refine ev_step ?_
  simp only [spec_l01In.f, spec_l01In.b]
  exact ev_ite (fun h => ev_some (by simp [show b ≤ a from h])) (fun h => ev_some (by simp [show ¬ b ≤ a from h]))
theorem impl_isNum.ev (a : Int) : Ev (fun k => impl_isNum.f k a) (isNum a) := by
  refine ev_step ?_
  simp only [impl_isNum.f, impl_isNum.b]
  exact Ev.bind (impl_within.ev _ _ _) (ev_some rfl)
theorem spec_l01Num.ev (a : Int) : Ev (fun k => spec_l01Num.f k a) (isNum a) := by
  refine ev_step ?_
  simp only [spec_l01Num.f, spec_l01Num.b]
  exact Ev.bind (spec_l01In.ev _ _ _) (ev_some rfl)


structure Row where
  f0 : Int
  z : Bool
  f1 : List Int
instance : Inhabited Row := ⟨⟨0, false, []⟩⟩
def Row.t (r : Row) : T := .agg [.int .i64 r.f0, .nums 5 .u8 r.z r.f1]
theorem Row.c0 (r : Row) : (r.t.cells.getD 0 .bad).toInt = r.f0 := rfl
theorem Row.c1 (r : Row) : (r.t.cells.getD 1 .bad).toNums = r.f1 := rfl

end Go.Proofs.YtjffolalgcmhaaaGreatDoorG
namespace Go.Proofs.YtjffolalgcmhaaaGreatDoorG
open Go Go.Proofs.YtjffolalgcmhaaaGreatDoorRv Go.RowKit
set_option linter.unusedVariables false
set_option linter.unusedSimpArgs false


theorem rdI_nat {l : List Int} {n : Nat} (h : n < l.length) : rdI l (n : Int) = l[n] := by simp [rdI, h]
def bytesOk (b : List Int) : Prop := ∀ x ∈ b, 0 ≤ x ∧ x < 256

end Go.Proofs.YtjffolalgcmhaaaGreatDoorG
namespace Go.Proofs.YtjffolalgcmhaaaGreatDoorG
open Go Go.Proofs.YtjffolalgcmhaaaGreatDoorRv Go.RowKit
set_option linter.unusedVariables false
set_option linter.unusedSimpArgs false

theorem w4 (i j : Nat) (h : i ≤ 1000000000) (hj : j ≤ 1000) : wrap64 (((i : Nat) : Int) + (j : Int)) = ((i + j : Nat) : Int) := by unfold wrap64; omega
section
variable (y0 y1 y2 : Bool) (h b : List Int)



end
end Go.Proofs.YtjffolalgcmhaaaGreatDoorG
namespace Go.Proofs.YtjffolalgcmhaaaGreatDoorG
open Go Go.Proofs.YtjffolalgcmhaaaGreatDoorRv Go.RowKit
set_option linter.unusedVariables false
set_option linter.unusedSimpArgs false


section
variable (z : Bool) (l : List Int)
end


theorem succ_nat (i : Nat) (h : i ≤ 1000000000) : wrap64 ((i : Int) + 1) = ((i + 1 : Nat) : Int) := by unfold wrap64; omega

end Go.Proofs.YtjffolalgcmhaaaGreatDoorG
namespace Go.Proofs.YtjffolalgcmhaaaGreatDoorG
open Go Go.Proofs.YtjffolalgcmhaaaGreatDoorRv Go.RowKit
set_option linter.unusedVariables false
set_option linter.unusedSimpArgs false


def Row.ok (r : Row) : Prop := r.f1.length ≤ 1048576 ∧ bytesOk r.f1
def Rows (l : List Row) : Prop := l.length ≤ 1048576 ∧ ∀ r ∈ l, r.ok
theorem laws_szByteS.ev (z : Bool) (l : List Int) (h : l.length ≤ 9223372036854775807) (a : Int) (h0 : 0 ≤ a) (h1 : a ≤ 1048576) : ∃ r, Ev (fun k => laws_szByteS.f k z l a) r ∧ SzR (okB l) a r := by
  have e : wrap64 (a - (l.length : Int)) = a - (l.length : Int) := w64 (by omega) (by omega)
  by_cases c : (l.length : Int) ≤ a
  · refine ⟨a - l.length, ev_step ?_, Or.inr ⟨by omega, by omega, by unfold okB; omega⟩⟩
    simp only [laws_szByteS.f, laws_szByteS.b, e]
    clear e
    exact ev_neg (by omega) (ev_some rfl)
  · refine ⟨-1, ev_step ?_, Or.inl rfl⟩
    simp only [laws_szByteS.f, laws_szByteS.b, e]
    clear e
    exact ev_pos (by omega) (ev_some rfl)
def Row.fit (r : Row) : Prop := r.f1.length ≤ 9223372036854775807
def Fit (l : List Row) : Prop := l.length ≤ 9223372036854775807 ∧ ∀ r ∈ l, r.fit
def Few (l : List Row) : Prop := l.length ≤ 1048576 ∧ ∀ r ∈ l, okB r.f1
theorem laws_szEntry.ev (w hi : Int) (z : Bool) (l : List Int) (h : l.length ≤ 9223372036854775807) (a : Int) (h0 : 0 ≤ a) (h1 : a ≤ 1048576) : ∃ q, Ev (fun k => laws_szEntry.f k w hi z l a) q ∧ SzR (okB l) a q := by
  obtain ⟨q, e, s⟩ := laws_szByteS.ev z l h a h0 h1
  rcases s with rfl | ⟨s1, s2, s3⟩
  · refine ⟨-1, ev_step ?_, Or.inl rfl⟩
    simp only [laws_szEntry.f, laws_szEntry.b]
    exact Ev.bind e (ev_pos (by omega) (ev_some rfl))
  · refine ⟨q, ev_step ?_, Or.inr ⟨s1, s2, s3⟩⟩
    simp only [laws_szEntry.f, laws_szEntry.b]
    exact Ev.bind e (ev_neg (by omega) (ev_some rfl))


theorem laws_toByteS.ev (z : Bool) (l : List Int) (h : okB l) : Ev (fun k => laws_toByteS.f k z l) (false, l) := by
  have hl : l.length ≤ 1048576 := h
  refine ev_step ?_
  simp only [laws_toByteS.f, laws_toByteS.b]
  refine ev_pos trivial (ev_pos (by omega) (ev_pos (by omega) ?_))
  have key : ∀ (d n : Nat) (ys : List Int), n + d = l.length → ys.length = l.length → ys.take n = l.take n → Ev (fun k => laws_toByteS.l0 k z l ys (n : Int)) (false, l) := by
    intro d
    induction d with
    | zero =>
      intro n ys hn hy ht
      refine ev_step ?_
      simp only [laws_toByteS.l0, laws_toByteS.l0b]
      refine ev_neg (by omega) (ev_some ?_)
      obtain rfl : n = l.length := by omega
      rw [List.take_length, ← hy, List.take_length] at ht
      rw [ht]
    | succ d ih =>
      intro n ys hn hy ht
      have hlt : n < l.length := by omega
      refine ev_step ?_
      have i2 := ih (n + 1) (ys.set n l[n]) (by omega) (by simp [hy]) (by
        rw [List.take_succ_eq_append_getElem (by simp; omega), List.take_succ_eq_append_getElem hlt, List.take_set_of_le (Nat.le_refl n), ht, List.getElem_set_self])
      simp only [laws_toByteS.l0, laws_toByteS.l0b, rdI_nat hlt, succ_nat n (by omega), Int.toNat_natCast]
      exact ev_pos (by omega) (ev_pos (by omega) (ev_pos (by omega) (ev_pos (by omega) (ev_pos (by omega) i2))))
  exact key l.length 0 _ (by omega) (by simp) (by simp)
def Row.cp (r : Row) : Row := ⟨r.f0, false, r.f1⟩
theorem laws_toEntry.ev (w hi : Int) (z : Bool) (l : List Int) (h : okB l) : Ev (fun k => laws_toEntry.f k w hi z l) (w, hi, false, l) := by
  refine ev_step ?_
  simp only [laws_toEntry.f, laws_toEntry.b]
  exact Ev.bind (laws_toByteS.ev z l h) (ev_some rfl)


theorem laws_eqByteS.ev (y z : Bool) (l : List Int) (h : okB l) : Ev (fun k => laws_eqByteS.f k y l z l) true := by
  have hl : l.length ≤ 1048576 := h
  refine ev_step ?_
  simp only [laws_eqByteS.f, laws_eqByteS.b]
  refine ev_neg (by simp) ?_
  have key : ∀ (d n : Nat), n + d = l.length → Ev (fun k => laws_eqByteS.l0 k y l z l (n : Int)) true := by
    intro d
    induction d with
    | zero =>
      intro n hn
      refine ev_step ?_
      simp only [laws_eqByteS.l0, laws_eqByteS.l0b]
      exact ev_neg (by omega) (ev_some rfl)
    | succ d ih =>
      intro n hn
      refine ev_step ?_
      simp only [laws_eqByteS.l0, laws_eqByteS.l0b, succ_nat n (by omega)]
      exact ev_pos (by omega) (ev_pos (by omega) (ev_pos (by omega) (ev_pos (by omega) (ev_pos (by omega) (ev_neg (by simp) (ih (n + 1) (by omega)))))))
  exact key l.length 0 (by omega)
theorem laws_eqEntry.ev (w hi : Int) (y z : Bool) (l : List Int) (h : okB l) : Ev (fun k => laws_eqEntry.f k w hi y l w hi z l) true := by
  refine ev_step ?_
  simp only [laws_eqEntry.f, laws_eqEntry.b]
  exact ev_neg (by simp) (ev_neg (by simp) (Ev.bind (laws_eqByteS.ev y z l h) (ev_neg (by simp) (ev_some rfl))))


theorem few_cp {l : List Row} (h : Few l) : Few (l.map Row.cp) := ⟨by simpa using h.1, fun r hr => by
  obtain ⟨x, hx, rfl⟩ := List.mem_map.1 hr
  exact h.2 x hx⟩
end Go.Proofs.YtjffolalgcmhaaaGreatDoorG
namespace Go.Proofs.YtjffolalgcmhaaaGreatDoorG
open Go Go.Proofs.YtjffolalgcmhaaaGreatDoorRv Go.RowKit
set_option linter.unusedVariables false
set_option linter.unusedSimpArgs false

theorem laws_szVote.ev (a b : Int) (x : Bool) (l : List Int) (hl : l.length ≤ 9223372036854775807) (w : Int) (y : Bool) (t : List Int) (ht : t.length ≤ 9223372036854775807) (c : Int) (h0 : 0 ≤ c) (h1 : c ≤ 1048576) : ∃ q, Ev (fun k => laws_szVote.f k a b x l w y t c) q ∧ SzR (okB l ∧ okB t) c q := by
  obtain ⟨q, e, s⟩ := laws_szByteS.ev x l hl c h0 h1
  rcases s with rfl | ⟨s1, s2, s3⟩
  · refine ⟨-1, ev_step ?_, Or.inl rfl⟩
    simp only [laws_szVote.f, laws_szVote.b]
    exact Ev.bind e (ev_pos (by omega) (ev_some rfl))
  obtain ⟨p, e2, s⟩ := laws_szByteS.ev y t ht q s1 (by omega)
  rcases s with rfl | ⟨t1, t2, t3⟩
  · refine ⟨-1, ev_step ?_, Or.inl rfl⟩
    simp only [laws_szVote.f, laws_szVote.b]
    exact Ev.bind e (ev_neg (by omega) (Ev.bind e2 (ev_pos (by omega) (ev_some rfl))))
  · refine ⟨p, ev_step ?_, Or.inr ⟨t1, by omega, s3, t3⟩⟩
    simp only [laws_szVote.f, laws_szVote.b]
    exact Ev.bind e (ev_neg (by omega) (Ev.bind e2 (ev_neg (by omega) (ev_some rfl))))
theorem laws_toVote.ev (a b : Int) (x : Bool) (l : List Int) (hl : okB l) (w : Int) (y : Bool) (t : List Int) (ht : okB t) : Ev (fun k => laws_toVote.f k a b x l w y t) (a, b, false, l, w, false, t) := by
  refine ev_step ?_
  simp only [laws_toVote.f, laws_toVote.b]
  exact Ev.bind (laws_toByteS.ev x l hl) (Ev.bind (laws_toByteS.ev y t ht) (ev_some rfl))
theorem laws_eqVote.ev (a b : Int) (x : Bool) (l : List Int) (hl : okB l) (w : Int) (y : Bool) (t : List Int) (ht : okB t) (x' y' : Bool) : Ev (fun k => laws_eqVote.f k a b x l w y t a b x' l w y' t) true := by
  refine ev_step ?_
  simp only [laws_eqVote.f, laws_eqVote.b]
  exact ev_neg (by simp) (ev_neg (by simp) (Ev.bind (laws_eqByteS.ev _ _ l hl) (ev_neg (by simp) (ev_neg (by simp) (Ev.bind (laws_eqByteS.ev _ _ t ht) (ev_neg (by simp) (ev_some rfl)))))))
end Go.Proofs.YtjffolalgcmhaaaGreatDoorG
namespace Go.Proofs.YtjffolalgcmhaaaGreatDoorG
open Go Go.Proofs.YtjffolalgcmhaaaGreatDoorRv Go.RowKit
set_option linter.unusedVariables false
set_option linter.unusedSimpArgs false

structure By where
  z : Bool
  l : List Int
instance : Inhabited By := ⟨⟨false, []⟩⟩
def By.t (b : By) : T := .nums 5 .u8 b.z b.l
def By.cp (b : By) : By := ⟨false, b.l⟩
theorem by_at {l : List By} {i : Nat} (h : i < l.length) : (l.map By.t).getD i .bad = (l[i]).t := by simp [List.getD_eq_getElem?_getD, h]
theorem By.c0z (b : By) : (b.t.cells.getD 0 .bad).isNil = b.z := rfl
theorem By.c0 (b : By) : (b.t.cells.getD 0 .bad).toNums = b.l := rfl
def FitB (l : List By) : Prop := l.length ≤ 9223372036854775807 ∧ ∀ b ∈ l, b.l.length ≤ 9223372036854775807
def FewB (l : List By) : Prop := l.length ≤ 1048576 ∧ ∀ b ∈ l, okB b.l
theorem fewB_cp {l : List By} (h : FewB l) : FewB (l.map By.cp) := ⟨by simpa using h.1, fun r hr => by
  obtain ⟨x, hx, rfl⟩ := List.mem_map.1 hr
  exact h.2 x hx⟩
theorem laws_szByteSS.ev0 (z : Bool) (l : List By) (hl : l.length ≤ 1048576) (h : ∀ b ∈ l, b.l.length ≤ 9223372036854775807) : ∀ (d n : Nat) (a : Int), n + d = l.length → 0 ≤ a → a ≤ 1048576 → ∃ q, Ev (fun k => laws_szByteSS.l0 k z (l.map By.t) a (n : Int)) q ∧ SzR (∀ r ∈ l.drop n, okB r.l) a q
  | 0, n, a, hn, h0, h1 => by
    refine ⟨a, ev_step ?_, Or.inr ⟨h0, by omega, fun r hr => ?_⟩⟩
    · simp only [laws_szByteSS.l0, laws_szByteSS.l0b, List.length_map]
      exact ev_neg (by omega) (ev_some rfl)
    · rw [List.drop_of_length_le (by omega)] at hr; cases hr
  | d + 1, n, a, hn, h0, h1 => by
    have hlt : n < l.length := by omega
    obtain ⟨q, e, s⟩ := laws_szByteS.ev l[n].z l[n].l (h _ (List.getElem_mem hlt)) a h0 h1
    rcases s with rfl | ⟨s1, s2, s3⟩
    · refine ⟨-1, ev_step ?_, Or.inl rfl⟩
      simp only [laws_szByteSS.l0, laws_szByteSS.l0b, List.length_map, Int.toNat_natCast, by_at hlt, By.c0, By.c0z]
      exact ev_pos (by omega) (ev_pos (by omega) (ev_pos (by omega) (Ev.bind e (ev_pos (by omega) (ev_some rfl)))))
    · obtain ⟨p, e2, s'⟩ := laws_szByteSS.ev0 z l hl h d (n + 1) q (by omega) s1 (by omega)
      refine ⟨p, ev_step ?_, ?_⟩
      · simp only [laws_szByteSS.l0, laws_szByteSS.l0b, List.length_map, Int.toNat_natCast, by_at hlt, By.c0, By.c0z, succ_nat n (by omega)]
        exact ev_pos (by omega) (ev_pos (by omega) (ev_pos (by omega) (Ev.bind e (ev_neg (by omega) e2))))
      · rcases s' with rfl | ⟨t1, t2, t3⟩
        · exact Or.inl rfl
        · refine Or.inr ⟨t1, by omega, fun r hr => ?_⟩
          rw [List.drop_eq_getElem_cons hlt] at hr
          rcases List.mem_cons.1 hr with rfl | hr
          · exact s3
          · exact t3 r hr
theorem laws_szByteSS.ev (z : Bool) (l : List By) (h : FitB l) (a : Int) (h0 : 0 ≤ a) (h1 : a ≤ 1048576) : ∃ q, Ev (fun k => laws_szByteSS.f k z (l.map By.t) a) q ∧ SzR (FewB l) a q := by
  have hl := h.1
  have e : wrap64 (a - (l.length : Int)) = a - (l.length : Int) := w64 (by omega) (by omega)
  by_cases c : (l.length : Int) ≤ a
  · obtain ⟨q, e2, s⟩ := laws_szByteSS.ev0 z l (by clear e; omega) h.2 l.length 0 (a - l.length) (by omega) (by clear e; omega) (by clear e; omega)
    refine ⟨q, ev_step ?_, ?_⟩
    · simp only [laws_szByteSS.f, laws_szByteSS.b, List.length_map, e]
      clear e
      exact ev_neg (by omega) e2
    · clear e
      rcases s with rfl | ⟨t1, t2, t3⟩
      · exact Or.inl rfl
      · exact Or.inr ⟨t1, by omega, by omega, t3⟩
  · refine ⟨-1, ev_step ?_, Or.inl rfl⟩
    simp only [laws_szByteSS.f, laws_szByteSS.b, List.length_map, e]
    clear e
    exact ev_pos (by omega) (ev_some rfl)
theorem laws_toByteSS.ev (z : Bool) (l : List By) (h : FewB l) : Ev (fun k => laws_toByteSS.f k z (l.map By.t)) (false, (l.map By.cp).map By.t) := by
  have hl : l.length ≤ 1048576 := h.1
  refine ev_step ?_
  simp only [laws_toByteSS.f, laws_toByteSS.b, List.length_map]
  refine ev_pos trivial (ev_pos (by omega) (ev_pos (by omega) ?_))
  have key : ∀ (d n : Nat) (ys : List T), n + d = l.length → ys.length = l.length → ys.take n = ((l.map By.cp).map By.t).take n → Ev (fun k => laws_toByteSS.l0 k z (l.map By.t) ys (n : Int)) (false, (l.map By.cp).map By.t) := by
    intro d
    induction d with
    | zero =>
      intro n ys hn hy ht
      refine ev_step ?_
      simp only [laws_toByteSS.l0, laws_toByteSS.l0b, List.length_map]
      refine ev_neg (by omega) (ev_some ?_)
      rw [List.take_of_length_le (by omega), List.take_of_length_le (by simp; omega)] at ht
      rw [ht]
    | succ d ih =>
      intro n ys hn hy ht
      have hlt : n < l.length := by omega
      refine ev_step ?_
      have i2 := ih (n + 1) (ys.set n (l[n].cp).t) (by omega) (by simp [hy]) (by
        rw [List.take_succ_eq_append_getElem (by simp; omega), List.take_succ_eq_append_getElem (by simp; omega), List.take_set_of_le (Nat.le_refl n), ht, List.getElem_set_self]
        simp)
      simp only [laws_toByteSS.l0, laws_toByteSS.l0b, List.length_map, succ_nat n (by omega), Int.toNat_natCast, by_at hlt, By.c0, By.c0z]
      exact ev_pos (by omega) (ev_pos (by omega) (ev_pos (by omega) (Ev.bind (laws_toByteS.ev l[n].z l[n].l (h.2 _ (List.getElem_mem hlt))) (ev_pos (by omega) (ev_pos (by omega) i2)))))
  exact key l.length 0 _ (by omega) (by simp) (by simp)
theorem laws_eqByteSS.ev (y z : Bool) (l : List By) (h : FewB l) : Ev (fun k => laws_eqByteSS.f k y (l.map By.t) z (l.map By.t)) true := by
  have hl : l.length ≤ 1048576 := h.1
  refine ev_step ?_
  simp only [laws_eqByteSS.f, laws_eqByteSS.b]
  refine ev_neg (by simp) ?_
  have key : ∀ (d n : Nat), n + d = l.length → Ev (fun k => laws_eqByteSS.l0 k y (l.map By.t) z (l.map By.t) (n : Int)) true := by
    intro d
    induction d with
    | zero =>
      intro n hn
      refine ev_step ?_
      simp only [laws_eqByteSS.l0, laws_eqByteSS.l0b, List.length_map]
      exact ev_neg (by omega) (ev_some rfl)
    | succ d ih =>
      intro n hn
      have hlt : n < l.length := by omega
      refine ev_step ?_
      simp only [laws_eqByteSS.l0, laws_eqByteSS.l0b, List.length_map, Int.toNat_natCast, by_at hlt, By.c0, By.c0z, succ_nat n (by omega)]
      exact ev_pos (by omega) (ev_pos (by omega) (ev_pos (by omega) (ev_pos (by omega) (ev_pos (by omega) (Ev.bind (laws_eqByteS.ev _ _ _ (h.2 _ (List.getElem_mem hlt))) (ev_neg (by simp) (ih (n + 1) (by omega))))))))
  exact key l.length 0 (by omega)
structure QcV where
  v : Int
  h : Int
  bz : Bool
  blk : List Int
  mz : Bool
  bits : List Int
  tz : Bool
  tags : List By
structure Head where
  v : Int
  h : Int
  p : Int
  az : Bool
  par : List Int
  rz : Bool
  root : List Int
  q : QcV
instance : Inhabited Head := ⟨⟨0, 0, 0, false, [], false, [], ⟨0, 0, false, [], false, [], false, []⟩⟩⟩
def Head.t (x : Head) : T := .agg [.int .i64 x.v, .int .i64 x.h, .int .i64 x.p, .nums 5 .u8 x.az x.par, .nums 5 .u8 x.rz x.root, .int .i64 x.q.v, .int .i64 x.q.h, .nums 5 .u8 x.q.bz x.q.blk, .nums 5 .u8 x.q.mz x.q.bits, .sl 22 x.q.tz (x.q.tags.map By.t)]
theorem head_at {l : List Head} {i : Nat} (h : i < l.length) : (l.map Head.t).getD i .bad = (l[i]).t := by simp [List.getD_eq_getElem?_getD, h]
section
variable (x : Head)
theorem Head.c0 : (x.t.cells.getD 0 .bad).toInt = x.v := rfl
theorem Head.c1 : (x.t.cells.getD 1 .bad).toInt = x.h := rfl
theorem Head.c2 : (x.t.cells.getD 2 .bad).toInt = x.p := rfl
theorem Head.c3z : (x.t.cells.getD 3 .bad).isNil = x.az := rfl
theorem Head.c3 : (x.t.cells.getD 3 .bad).toNums = x.par := rfl
theorem Head.c4z : (x.t.cells.getD 4 .bad).isNil = x.rz := rfl
theorem Head.c4 : (x.t.cells.getD 4 .bad).toNums = x.root := rfl
theorem Head.c5 : (x.t.cells.getD 5 .bad).toInt = x.q.v := rfl
theorem Head.c6 : (x.t.cells.getD 6 .bad).toInt = x.q.h := rfl
theorem Head.c7z : (x.t.cells.getD 7 .bad).isNil = x.q.bz := rfl
theorem Head.c7 : (x.t.cells.getD 7 .bad).toNums = x.q.blk := rfl
theorem Head.c8z : (x.t.cells.getD 8 .bad).isNil = x.q.mz := rfl
theorem Head.c8 : (x.t.cells.getD 8 .bad).toNums = x.q.bits := rfl
theorem Head.c9z : (x.t.cells.getD 9 .bad).isNil = x.q.tz := rfl
theorem Head.c9 : (x.t.cells.getD 9 .bad).toList = x.q.tags.map By.t := rfl
end
def QcV.cp (q : QcV) : QcV := ⟨q.v, q.h, false, q.blk, false, q.bits, false, q.tags.map By.cp⟩
def Head.cp (x : Head) : Head := ⟨x.v, x.h, x.p, false, x.par, false, x.root, x.q.cp⟩
def QcV.fit (q : QcV) : Prop := q.blk.length ≤ 9223372036854775807 ∧ q.bits.length ≤ 9223372036854775807 ∧ FitB q.tags
def QcV.few (q : QcV) : Prop := okB q.blk ∧ okB q.bits ∧ FewB q.tags
def Head.fit (x : Head) : Prop := x.par.length ≤ 9223372036854775807 ∧ x.root.length ≤ 9223372036854775807 ∧ x.q.fit
def Head.few (x : Head) : Prop := okB x.par ∧ okB x.root ∧ x.q.few
theorem Head.few_cp {x : Head} (h : x.few) : x.cp.few := ⟨h.1, h.2.1, h.2.2.1, h.2.2.2.1, fewB_cp h.2.2.2.2⟩
theorem laws_szQc.ev (q : QcV) (h : q.fit) (a : Int) (h0 : 0 ≤ a) (h1 : a ≤ 1048576) : ∃ r, Ev (fun k => laws_szQc.f k q.v q.h q.bz q.blk q.mz q.bits q.tz (q.tags.map By.t) a) r ∧ SzR q.few a r := by
  obtain ⟨r, e, s⟩ := laws_szByteS.ev q.bz q.blk h.1 a h0 h1
  rcases s with rfl | ⟨s1, s2, s3⟩
  · refine ⟨-1, ev_step ?_, Or.inl rfl⟩
    simp only [laws_szQc.f, laws_szQc.b]
    exact Ev.bind e (ev_pos (by omega) (ev_some rfl))
  obtain ⟨p, e2, s⟩ := laws_szByteS.ev q.mz q.bits h.2.1 r s1 (by omega)
  rcases s with rfl | ⟨t1, t2, t3⟩
  · refine ⟨-1, ev_step ?_, Or.inl rfl⟩
    simp only [laws_szQc.f, laws_szQc.b]
    exact Ev.bind e (ev_neg (by omega) (Ev.bind e2 (ev_pos (by omega) (ev_some rfl))))
  obtain ⟨o, e3, s⟩ := laws_szByteSS.ev q.tz q.tags h.2.2 p t1 (by omega)
  rcases s with rfl | ⟨u1, u2, u3⟩
  · refine ⟨-1, ev_step ?_, Or.inl rfl⟩
    simp only [laws_szQc.f, laws_szQc.b]
    exact Ev.bind e (ev_neg (by omega) (Ev.bind e2 (ev_neg (by omega) (Ev.bind e3 (ev_pos (by omega) (ev_some rfl))))))
  · refine ⟨o, ev_step ?_, Or.inr ⟨u1, by omega, s3, t3, u3⟩⟩
    simp only [laws_szQc.f, laws_szQc.b]
    exact Ev.bind e (ev_neg (by omega) (Ev.bind e2 (ev_neg (by omega) (Ev.bind e3 (ev_neg (by omega) (ev_some rfl))))))
theorem laws_szHead.ev (x : Head) (h : x.fit) (a : Int) (h0 : 0 ≤ a) (h1 : a ≤ 1048576) : ∃ r, Ev (fun k => laws_szHead.f k x.v x.h x.p x.az x.par x.rz x.root x.q.v x.q.h x.q.bz x.q.blk x.q.mz x.q.bits x.q.tz (x.q.tags.map By.t) a) r ∧ SzR x.few a r := by
  obtain ⟨r, e, s⟩ := laws_szByteS.ev x.az x.par h.1 a h0 h1
  rcases s with rfl | ⟨s1, s2, s3⟩
  · refine ⟨-1, ev_step ?_, Or.inl rfl⟩
    simp only [laws_szHead.f, laws_szHead.b]
    exact Ev.bind e (ev_pos (by omega) (ev_some rfl))
  obtain ⟨p, e2, s⟩ := laws_szByteS.ev x.rz x.root h.2.1 r s1 (by omega)
  rcases s with rfl | ⟨t1, t2, t3⟩
  · refine ⟨-1, ev_step ?_, Or.inl rfl⟩
    simp only [laws_szHead.f, laws_szHead.b]
    exact Ev.bind e (ev_neg (by omega) (Ev.bind e2 (ev_pos (by omega) (ev_some rfl))))
  obtain ⟨o, e3, s⟩ := laws_szQc.ev x.q h.2.2 p t1 (by omega)
  rcases s with rfl | ⟨u1, u2, u3⟩
  · refine ⟨-1, ev_step ?_, Or.inl rfl⟩
    simp only [laws_szHead.f, laws_szHead.b]
    exact Ev.bind e (ev_neg (by omega) (Ev.bind e2 (ev_neg (by omega) (Ev.bind e3 (ev_pos (by omega) (ev_some rfl))))))
  · refine ⟨o, ev_step ?_, Or.inr ⟨u1, by omega, s3, t3, u3⟩⟩
    simp only [laws_szHead.f, laws_szHead.b]
    exact Ev.bind e (ev_neg (by omega) (Ev.bind e2 (ev_neg (by omega) (Ev.bind e3 (ev_neg (by omega) (ev_some rfl))))))
def FitH (l : List Head) : Prop := l.length ≤ 9223372036854775807 ∧ ∀ x ∈ l, x.fit
def FewH (l : List Head) : Prop := l.length ≤ 1048576 ∧ ∀ x ∈ l, x.few
theorem fewH_cp {l : List Head} (h : FewH l) : FewH (l.map Head.cp) := ⟨by simpa using h.1, fun r hr => by
  obtain ⟨x, hx, rfl⟩ := List.mem_map.1 hr
  exact Head.few_cp (h.2 x hx)⟩
theorem laws_szHeadS.ev0 (z : Bool) (l : List Head) (hl : l.length ≤ 1048576) (h : ∀ b ∈ l, b.fit) : ∀ (d n : Nat) (a : Int), n + d = l.length → 0 ≤ a → a ≤ 1048576 → ∃ q, Ev (fun k => laws_szHeadS.l0 k z (l.map Head.t) a (n : Int)) q ∧ SzR (∀ r ∈ l.drop n, r.few) a q
  | 0, n, a, hn, h0, h1 => by
    refine ⟨a, ev_step ?_, Or.inr ⟨h0, by omega, fun r hr => ?_⟩⟩
    · simp only [laws_szHeadS.l0, laws_szHeadS.l0b, List.length_map]
      exact ev_neg (by omega) (ev_some rfl)
    · rw [List.drop_of_length_le (by omega)] at hr; cases hr
  | d + 1, n, a, hn, h0, h1 => by
    have hlt : n < l.length := by omega
    obtain ⟨q, e, s⟩ := laws_szHead.ev l[n] (h _ (List.getElem_mem hlt)) a h0 h1
    rcases s with rfl | ⟨s1, s2, s3⟩
    · refine ⟨-1, ev_step ?_, Or.inl rfl⟩
      simp only [laws_szHeadS.l0, laws_szHeadS.l0b, List.length_map, Int.toNat_natCast, head_at hlt, Head.c0, Head.c1, Head.c2, Head.c3z, Head.c3, Head.c4z, Head.c4, Head.c5, Head.c6, Head.c7z, Head.c7, Head.c8z, Head.c8, Head.c9z, Head.c9]
      exact ev_pos (by omega) (ev_pos (by omega) (ev_pos (by omega) (Ev.bind e (ev_pos (by omega) (ev_some rfl)))))
    · obtain ⟨p, e2, s'⟩ := laws_szHeadS.ev0 z l hl h d (n + 1) q (by omega) s1 (by omega)
      refine ⟨p, ev_step ?_, ?_⟩
      · simp only [laws_szHeadS.l0, laws_szHeadS.l0b, List.length_map, Int.toNat_natCast, head_at hlt, Head.c0, Head.c1, Head.c2, Head.c3z, Head.c3, Head.c4z, Head.c4, Head.c5, Head.c6, Head.c7z, Head.c7, Head.c8z, Head.c8, Head.c9z, Head.c9, succ_nat n (by omega)]
        exact ev_pos (by omega) (ev_pos (by omega) (ev_pos (by omega) (Ev.bind e (ev_neg (by omega) e2))))
      · rcases s' with rfl | ⟨t1, t2, t3⟩
        · exact Or.inl rfl
        · refine Or.inr ⟨t1, by omega, fun r hr => ?_⟩
          rw [List.drop_eq_getElem_cons hlt] at hr
          rcases List.mem_cons.1 hr with rfl | hr
          · exact s3
          · exact t3 r hr
theorem laws_szHeadS.ev (z : Bool) (l : List Head) (h : FitH l) (a : Int) (h0 : 0 ≤ a) (h1 : a ≤ 1048576) : ∃ q, Ev (fun k => laws_szHeadS.f k z (l.map Head.t) a) q ∧ SzR (FewH l) a q := by
  have hl := h.1
  have e : wrap64 (a - (l.length : Int)) = a - (l.length : Int) := w64 (by omega) (by omega)
  by_cases c : (l.length : Int) ≤ a
  · obtain ⟨q, e2, s⟩ := laws_szHeadS.ev0 z l (by clear e; omega) h.2 l.length 0 (a - l.length) (by omega) (by clear e; omega) (by clear e; omega)
    refine ⟨q, ev_step ?_, ?_⟩
    · simp only [laws_szHeadS.f, laws_szHeadS.b, List.length_map, e]
      clear e
      exact ev_neg (by omega) e2
    · clear e
      rcases s with rfl | ⟨t1, t2, t3⟩
      · exact Or.inl rfl
      · exact Or.inr ⟨t1, by omega, by omega, t3⟩
  · refine ⟨-1, ev_step ?_, Or.inl rfl⟩
    simp only [laws_szHeadS.f, laws_szHeadS.b, List.length_map, e]
    clear e
    exact ev_pos (by omega) (ev_some rfl)
theorem laws_toQc.ev (q : QcV) (h : q.few) : Ev (fun k => laws_toQc.f k q.v q.h q.bz q.blk q.mz q.bits q.tz (q.tags.map By.t)) (q.v, q.h, false, q.blk, false, q.bits, false, (q.tags.map By.cp).map By.t) := by
  refine ev_step ?_
  simp only [laws_toQc.f, laws_toQc.b]
  exact Ev.bind (laws_toByteS.ev _ _ h.1) (Ev.bind (laws_toByteS.ev _ _ h.2.1) (Ev.bind (laws_toByteSS.ev _ _ h.2.2) (ev_some rfl)))
theorem laws_toHead.ev (x : Head) (h : x.few) : Ev (fun k => laws_toHead.f k x.v x.h x.p x.az x.par x.rz x.root x.q.v x.q.h x.q.bz x.q.blk x.q.mz x.q.bits x.q.tz (x.q.tags.map By.t)) (x.v, x.h, x.p, false, x.par, false, x.root, x.q.v, x.q.h, false, x.q.blk, false, x.q.bits, false, (x.q.tags.map By.cp).map By.t) := by
  refine ev_step ?_
  simp only [laws_toHead.f, laws_toHead.b]
  exact Ev.bind (laws_toByteS.ev _ _ h.1) (Ev.bind (laws_toByteS.ev _ _ h.2.1) (Ev.bind (laws_toQc.ev _ h.2.2) (ev_some rfl)))
theorem laws_toHeadS.ev (z : Bool) (l : List Head) (h : FewH l) : Ev (fun k => laws_toHeadS.f k z (l.map Head.t)) (false, (l.map Head.cp).map Head.t) := by
  have hl : l.length ≤ 1048576 := h.1
  refine ev_step ?_
  simp only [laws_toHeadS.f, laws_toHeadS.b, List.length_map]
  refine ev_pos trivial (ev_pos (by omega) (ev_pos (by omega) ?_))
  have key : ∀ (d n : Nat) (ys : List T), n + d = l.length → ys.length = l.length → ys.take n = ((l.map Head.cp).map Head.t).take n → Ev (fun k => laws_toHeadS.l0 k z (l.map Head.t) ys (n : Int)) (false, (l.map Head.cp).map Head.t) := by
    intro d
    induction d with
    | zero =>
      intro n ys hn hy ht
      refine ev_step ?_
      simp only [laws_toHeadS.l0, laws_toHeadS.l0b, List.length_map]
      refine ev_neg (by omega) (ev_some ?_)
      rw [List.take_of_length_le (by omega), List.take_of_length_le (by simp; omega)] at ht
      rw [ht]
    | succ d ih =>
      intro n ys hn hy ht
      have hlt : n < l.length := by omega
      refine ev_step ?_
      have i2 := ih (n + 1) (ys.set n (l[n].cp).t) (by omega) (by simp [hy]) (by
        rw [List.take_succ_eq_append_getElem (by simp; omega), List.take_succ_eq_append_getElem (by simp; omega), List.take_set_of_le (Nat.le_refl n), ht, List.getElem_set_self]
        simp)
      simp only [laws_toHeadS.l0, laws_toHeadS.l0b, List.length_map, succ_nat n (by omega), Int.toNat_natCast, head_at hlt, Head.c0, Head.c1, Head.c2, Head.c3z, Head.c3, Head.c4z, Head.c4, Head.c5, Head.c6, Head.c7z, Head.c7, Head.c8z, Head.c8, Head.c9z, Head.c9]
      exact ev_pos (by omega) (ev_pos (by omega) (ev_pos (by omega) (Ev.bind (laws_toHead.ev l[n] (h.2 _ (List.getElem_mem hlt))) (ev_pos (by omega) (ev_pos (by omega) i2)))))
  exact key l.length 0 _ (by omega) (by simp) (by simp)
theorem laws_eqQc.ev (q : QcV) (h : q.few) : Ev (fun k => laws_eqQc.f k q.v q.h q.bz q.blk q.mz q.bits q.tz (q.tags.map By.t) q.v q.h q.bz q.blk q.mz q.bits q.tz (q.tags.map By.t)) true := by
  refine ev_step ?_
  simp only [laws_eqQc.f, laws_eqQc.b]
  exact ev_neg (by simp) (ev_neg (by simp) (Ev.bind (laws_eqByteS.ev _ _ _ h.1) (ev_neg (by simp) (Ev.bind (laws_eqByteS.ev _ _ _ h.2.1) (ev_neg (by simp) (Ev.bind (laws_eqByteSS.ev _ _ _ h.2.2) (ev_neg (by simp) (ev_some rfl))))))))
theorem laws_eqHead.ev (x : Head) (h : x.few) : Ev (fun k => laws_eqHead.f k x.v x.h x.p x.az x.par x.rz x.root x.q.v x.q.h x.q.bz x.q.blk x.q.mz x.q.bits x.q.tz (x.q.tags.map By.t) x.v x.h x.p x.az x.par x.rz x.root x.q.v x.q.h x.q.bz x.q.blk x.q.mz x.q.bits x.q.tz (x.q.tags.map By.t)) true := by
  refine ev_step ?_
  simp only [laws_eqHead.f, laws_eqHead.b]
  exact ev_neg (by simp) (ev_neg (by simp) (ev_neg (by simp) (Ev.bind (laws_eqByteS.ev _ _ _ h.1) (ev_neg (by simp) (Ev.bind (laws_eqByteS.ev _ _ _ h.2.1) (ev_neg (by simp) (Ev.bind (laws_eqQc.ev _ h.2.2) (ev_neg (by simp) (ev_some rfl)))))))))
theorem laws_eqHeadS.ev (y z : Bool) (l : List Head) (h : FewH l) : Ev (fun k => laws_eqHeadS.f k y (l.map Head.t) z (l.map Head.t)) true := by
  have hl : l.length ≤ 1048576 := h.1
  refine ev_step ?_
  simp only [laws_eqHeadS.f, laws_eqHeadS.b]
  refine ev_neg (by simp) ?_
  have key : ∀ (d n : Nat), n + d = l.length → Ev (fun k => laws_eqHeadS.l0 k y (l.map Head.t) z (l.map Head.t) (n : Int)) true := by
    intro d
    induction d with
    | zero =>
      intro n hn
      refine ev_step ?_
      simp only [laws_eqHeadS.l0, laws_eqHeadS.l0b, List.length_map]
      exact ev_neg (by omega) (ev_some rfl)
    | succ d ih =>
      intro n hn
      have hlt : n < l.length := by omega
      refine ev_step ?_
      simp only [laws_eqHeadS.l0, laws_eqHeadS.l0b, List.length_map, Int.toNat_natCast, head_at hlt, Head.c0, Head.c1, Head.c2, Head.c3z, Head.c3, Head.c4z, Head.c4, Head.c5, Head.c6, Head.c7z, Head.c7, Head.c8z, Head.c8, Head.c9z, Head.c9, succ_nat n (by omega)]
      exact ev_pos (by omega) (ev_pos (by omega) (ev_pos (by omega) (ev_pos (by omega) (ev_pos (by omega) (Ev.bind (laws_eqHead.ev _ (h.2 _ (List.getElem_mem hlt))) (ev_neg (by simp) (ih (n + 1) (by omega))))))))
  exact key l.length 0 (by omega)
end Go.Proofs.YtjffolalgcmhaaaGreatDoorG
namespace Go.Proofs.YtjffolalgcmhaaaGreatDoorG
open Go Go.Proofs.YtjffolalgcmhaaaGreatDoorRv Go.RowKit
set_option linter.unusedVariables false
set_option linter.unusedSimpArgs false

structure Light where
  l0 : Int
  l1 : Int
  l2 : Int
  l3 : Int
  l4 : Int
  rz : Bool
  rows : List Row
  skip : Int
  bz : Bool
  buf : List Int
  cz : Bool
  chain : List Head
def Light.cp (x : Light) : Light := ⟨x.l0, x.l1, x.l2, x.l3, x.l4, false, x.rows.map Row.cp, x.skip, false, x.buf, false, x.chain.map Head.cp⟩
def Light.fit (x : Light) : Prop := Fit x.rows ∧ x.buf.length ≤ 9223372036854775807 ∧ FitH x.chain
def Light.few (x : Light) : Prop := Few x.rows ∧ okB x.buf ∧ FewH x.chain
end Go.Proofs.YtjffolalgcmhaaaGreatDoorG
namespace Go.Proofs.YtjffolalgcmhaaaGreatDoorG
open Go Go.Proofs.YtjffolalgcmhaaaGreatDoorRv Go.RowKit
set_option linter.unusedVariables false
set_option linter.unusedSimpArgs false

structure Sl (α : Type) where
  z : Bool
  l : List α
def goodI (n : Int) : Prop := (Lit.int .i64 n).wf = true
def By.good (b : By) : Prop := b.l.length ≤ 9223372036854775807 ∧ ∀ n ∈ b.l, (Lit.int .u8 n).wf = true
def GoodL {α : Type} (g : α → Prop) (l : List α) : Prop := l.length ≤ 9223372036854775807 ∧ ∀ x ∈ l, g x
def Row.good (r : Row) : Prop := goodI r.f0 ∧ By.good ⟨r.z, r.f1⟩
def Tab.good (x : Sl Row) : Prop := GoodL Row.good x.l
def QcV.good (q : QcV) : Prop := goodI q.v ∧ goodI q.h ∧ By.good ⟨q.bz, q.blk⟩ ∧ By.good ⟨q.mz, q.bits⟩ ∧ GoodL By.good q.tags
def Head.good (h : Head) : Prop := goodI h.v ∧ goodI h.h ∧ goodI h.p ∧ By.good ⟨h.az, h.par⟩ ∧ By.good ⟨h.rz, h.root⟩ ∧ h.q.good
theorem By.bytes {b : By} (h : b.good) : bytesOk b.l := fun x hx => wf8 (h.2 x hx)
theorem fit_rows {l : List Row} (h : GoodL Row.good l) : Fit l := ⟨h.1, fun r hr => (h.2 r hr).2.1⟩
theorem fitB_of {l : List By} (h : GoodL By.good l) : FitB l := ⟨h.1, fun b hb => (h.2 b hb).1⟩
def BytesL (l : List By) : Prop := ∀ b ∈ l, bytesOk b.l
theorem bytes_of {l : List By} (h : GoodL By.good l) : BytesL l := fun b hb => By.bytes (h.2 b hb)
theorem QcV.fit_of {q : QcV} (h : q.good) : q.fit := ⟨h.2.2.1.1, h.2.2.2.1.1, fitB_of h.2.2.2.2⟩
def QcV.byt (q : QcV) : Prop := bytesOk q.blk ∧ bytesOk q.bits ∧ BytesL q.tags
theorem QcV.byt_of {q : QcV} (h : q.good) : q.byt := ⟨By.bytes h.2.2.1, By.bytes h.2.2.2.1, bytes_of h.2.2.2.2⟩
def Head.byt (h : Head) : Prop := bytesOk h.par ∧ bytesOk h.root ∧ h.q.byt
theorem Head.fit_of {h : Head} (g : h.good) : h.fit := ⟨g.2.2.2.1.1, g.2.2.2.2.1.1, QcV.fit_of g.2.2.2.2.2⟩
theorem Head.byt_of {h : Head} (g : h.good) : h.byt := ⟨By.bytes g.2.2.2.1, By.bytes g.2.2.2.2.1, QcV.byt_of g.2.2.2.2.2⟩
theorem fitH_of {l : List Head} (h : GoodL Head.good l) : FitH l := ⟨h.1, fun x hx => Head.fit_of (h.2 x hx)⟩
structure Vt where
  v : Int
  h : Int
  bz : Bool
  blk : List Int
  who : Int
  tz : Bool
  tag : List Int
instance : Inhabited Vt := ⟨⟨0, 0, false, [], 0, false, []⟩⟩
def Vt.t (x : Vt) : T := .agg [.int .i64 x.v, .int .i64 x.h, .nums 5 .u8 x.bz x.blk, .int .i64 x.who, .nums 5 .u8 x.tz x.tag]
theorem Vt.c0 (x : Vt) : (x.t.cells.getD 0 .bad).toInt = x.v := rfl
theorem Vt.c1 (x : Vt) : (x.t.cells.getD 1 .bad).toInt = x.h := rfl
theorem Vt.c2z (x : Vt) : (x.t.cells.getD 2 .bad).isNil = x.bz := rfl
theorem Vt.c2 (x : Vt) : (x.t.cells.getD 2 .bad).toNums = x.blk := rfl
theorem Vt.c3 (x : Vt) : (x.t.cells.getD 3 .bad).toInt = x.who := rfl
theorem Vt.c4z (x : Vt) : (x.t.cells.getD 4 .bad).isNil = x.tz := rfl
theorem Vt.c4 (x : Vt) : (x.t.cells.getD 4 .bad).toNums = x.tag := rfl
def Vt.good (x : Vt) : Prop := goodI x.v ∧ goodI x.h ∧ By.good ⟨x.bz, x.blk⟩ ∧ goodI x.who ∧ By.good ⟨x.tz, x.tag⟩
def Vt.cp (x : Vt) : Vt := ⟨x.v, x.h, false, x.blk, x.who, false, x.tag⟩
structure En where
  who : Int
  high : Int
  tz : Bool
  tag : List Int
instance : Inhabited En := ⟨⟨0, 0, false, []⟩⟩
def En.t (x : En) : T := .agg [.int .i64 x.who, .int .i64 x.high, .nums 5 .u8 x.tz x.tag]
theorem en_at {l : List En} {i : Nat} (h : i < l.length) : (l.map En.t).getD i .bad = (l[i]).t := by simp [List.getD_eq_getElem?_getD, h]
theorem En.c0 (x : En) : (x.t.cells.getD 0 .bad).toInt = x.who := rfl
theorem En.c1 (x : En) : (x.t.cells.getD 1 .bad).toInt = x.high := rfl
theorem En.c2z (x : En) : (x.t.cells.getD 2 .bad).isNil = x.tz := rfl
theorem En.c2 (x : En) : (x.t.cells.getD 2 .bad).toNums = x.tag := rfl
def En.good (x : En) : Prop := goodI x.who ∧ goodI x.high ∧ By.good ⟨x.tz, x.tag⟩
def En.cp (x : En) : En := ⟨x.who, x.high, false, x.tag⟩

structure Lm where
  l0 : Int
  l1 : Int
  l2 : Int
  l3 : Int
  l4 : Int
def Lm.good (x : Lm) : Prop := goodI x.l0 ∧ goodI x.l1 ∧ goodI x.l2 ∧ goodI x.l3 ∧ goodI x.l4
structure TcV where
  v : Int
  ez : Bool
  ents : List En
def TcV.good (x : TcV) : Prop := goodI x.v ∧ GoodL En.good x.ents
structure Ps where
  skip : Int
  z : Bool
  buf : List Int
def Ps.good (x : Ps) : Prop := goodI x.skip ∧ By.good ⟨x.z, x.buf⟩
def Light.good (x : Light) : Prop := Lm.good ⟨x.l0, x.l1, x.l2, x.l3, x.l4⟩ ∧ GoodL Row.good x.rows ∧ Ps.good ⟨x.skip, x.bz, x.buf⟩ ∧ GoodL Head.good x.chain
theorem Light.fit_of {x : Light} (h : x.good) : x.fit := ⟨fit_rows h.2.1, h.2.2.1.2.1, fitH_of h.2.2.2⟩
structure Fo where
  l0 : Int
  l1 : Int
  l2 : Int
  l3 : Int
  l4 : Int
  hz : Bool
  heads : List Head
def Fo.good (x : Fo) : Prop := Lm.good ⟨x.l0, x.l1, x.l2, x.l3, x.l4⟩ ∧ GoodL Head.good x.heads
structure Pf where
  hz : Bool
  heads : List Head
  q : QcV
def Pf.good (x : Pf) : Prop := GoodL Head.good x.heads ∧ x.q.good
end Go.Proofs.YtjffolalgcmhaaaGreatDoorG
namespace Go.Proofs.YtjffolalgcmhaaaGreatDoorG
open Go Go.Proofs.YtjffolalgcmhaaaGreatDoorRv Go.RowKit
set_option linter.unusedVariables false
set_option linter.unusedSimpArgs false

theorem tdiv_nat (n m : Nat) : Int.tdiv (n : Int) (m : Int) = ((n / m : Nat) : Int) := by
  rw [Int.tdiv_eq_ediv_of_nonneg (by omega)]
  exact (Int.natCast_ediv n m).symm
theorem tmod_nat (n m : Nat) : Int.tmod (n : Int) (m : Int) = ((n % m : Nat) : Int) := by
  rw [Int.tmod_eq_emod_of_nonneg (by omega)]
  exact (Int.natCast_emod n m).symm
theorem w64n {n : Nat} (h : n ≤ 9223372036854775807) : wrap64 (n : Int) = (n : Int) := w64 (by omega) (by omega)

def bitAt (b : List Int) (i : Nat) : Bool := rdI b ((i / 8 : Nat) : Int) / 2 ^ (i % 8) % 2 == 1
theorem bitAt_out {b : List Int} {i : Nat} (h : 8 * b.length ≤ i) : bitAt b i = false := by
  have : b.length ≤ i / 8 := by omega
  have e : rdI b ((i / 8 : Nat) : Int) = 0 := by
    unfold rdI
    rw [toNat_nat, List.getD_eq_getElem?_getD, List.getElem?_eq_none this]
    rfl
  unfold bitAt
  rw [e]
  simp
theorem rd_nice {l : List Int} (h : niceB l) (i : Int) : 0 ≤ rdI l i ∧ rdI l i < 256 := by
  unfold rdI
  rw [List.getD_eq_getElem?_getD]
  cases e : l[i.toNat]? with
  | none => simp
  | some x => exact h.2 x (List.mem_of_getElem? e)
theorem u8_and1 {x : Int} (h0 : 0 ≤ x) (h1 : x < 256) : Go.bits .and .u8 x 1 = x % 2 := bits_mask .u8 8 (by decide) wraps_u8 1 (by decide) x h0 h1
theorem div_pow_bd {x : Int} (h0 : 0 ≤ x) (h1 : x < 256) (m : Nat) : 0 ≤ x / 2 ^ m ∧ x / 2 ^ m < 256 := by
  have hp : (0 : Int) < 2 ^ m := Int.pow_pos (by decide)
  refine ⟨Int.ediv_nonneg h0 (Int.le_of_lt hp), ?_⟩
  have := Int.ediv_le_self (2 ^ m) h0
  omega

def bitsFrom (b : List Int) : Nat → Nat → List Nat
  | _, 0 => []
  | i, m + 1 => if bitAt b i = true then i :: bitsFrom b (i + 1) m else bitsFrom b (i + 1) m

def bitsList (b : List Int) : List Int := (bitsFrom b 0 (8 * b.length)).map fun (n : Nat) => (n : Int)
theorem bitsFrom_mem (b : List Int) : ∀ (m i : Nat) (x : Nat), x ∈ bitsFrom b i m ↔ (i ≤ x ∧ x < i + m) ∧ bitAt b x = true
  | 0, i, x => by simp [bitsFrom]; omega
  | m + 1, i, x => by
    have ih := bitsFrom_mem b m (i + 1) x
    unfold bitsFrom
    split
    · rename_i h
      rw [List.mem_cons, ih]
      constructor
      · rintro (rfl | ⟨h1, h2⟩)
        · exact ⟨by omega, h⟩
        · exact ⟨by omega, h2⟩
      · rintro ⟨h1, h2⟩
        by_cases e : x = i
        · exact Or.inl e
        · exact Or.inr ⟨by omega, h2⟩
    · rename_i h
      rw [ih]
      constructor
      · rintro ⟨h1, h2⟩
        exact ⟨by omega, h2⟩
      · rintro ⟨h1, h2⟩
        have : x ≠ i := by rintro rfl; exact h h2
        exact ⟨by omega, h2⟩
theorem bitsFrom_length (b : List Int) : ∀ (m i : Nat), (bitsFrom b i m).length ≤ m
  | 0, i => by simp [bitsFrom]
  | m + 1, i => by
    have := bitsFrom_length b m (i + 1)
    unfold bitsFrom
    split
    · simp only [List.length_cons]; omega
    · omega
theorem bitsList_length (b : List Int) : (bitsList b).length ≤ 8 * b.length := by
  unfold bitsList
  rw [List.length_map]
  exact bitsFrom_length b _ _
theorem bitsList_bd {b : List Int} {x : Int} (h : x ∈ bitsList b) : ∃ n : Nat, x = n ∧ n < 8 * b.length ∧ bitAt b n = true := by
  unfold bitsList at h
  obtain ⟨n, hn, rfl⟩ := List.mem_map.1 h
  have := (bitsFrom_mem b _ _ n).1 hn
  exact ⟨n, rfl, by omega, this.2⟩
end Go.Proofs.YtjffolalgcmhaaaGreatDoorG
namespace Go.Proofs.YtjffolalgcmhaaaGreatDoorG
open Go Go.Proofs.YtjffolalgcmhaaaGreatDoorRv Go.RowKit
set_option linter.unusedVariables false
set_option linter.unusedSimpArgs false


end Go.Proofs.YtjffolalgcmhaaaGreatDoorG
namespace Go.Proofs.YtjffolalgcmhaaaGreatDoorG
open Go Go.Proofs.YtjffolalgcmhaaaGreatDoorRv Go.RowKit
set_option linter.unusedVariables false
set_option linter.unusedSimpArgs false

theorem impl_BitsHas.ev (z : Bool) (b : List Int) (h : niceB b) (i : Nat) (hi : i ≤ 4611686018427387904) : Ev (fun k => impl_BitsHas.f k z b (i : Int)) (bitAt b i) := by
  have hl := h.1
  have e8 : Int.tdiv (i : Int) 8 = ((i / 8 : Nat) : Int) := tdiv_nat i 8
  have m8 : Int.tmod (i : Int) 8 = ((i % 8 : Nat) : Int) := tmod_nat i 8
  refine ev_step ?_
  simp only [impl_BitsHas.f, impl_BitsHas.b]
  rw [w64 (n := 8 * (b.length : Int)) (by omega) (by omega), w64 (n := 8 * (b.length : Int) - 1) (by omega) (by omega), e8, m8, w64n (by omega)]
  refine Ev.bind (impl_within.ev _ _ _) (ev_ite (fun c => ?_) fun c => ?_)
  · have c' : (0 : Int) ≤ (i : Int) ∧ (i : Int) ≤ 8 * (b.length : Int) - 1 := by simpa using c
    refine ev_pos (by omega) (ev_pos (by omega) (ev_pos (by omega) (ev_some ?_)))
    have q := rd_nice h ((i / 8 : Nat) : Int)
    have e : shrI .u8 (rdI b ((i / 8 : Nat) : Int)) ((i % 8 : Nat) : Int) = rdI b ((i / 8 : Nat) : Int) / 2 ^ (i % 8) := by
      unfold shrI
      rw [toNat_nat, Nat.min_eq_left (by show i % 8 ≤ 8; omega)]
    have d := div_pow_bd q.1 q.2 (i % 8)
    rw [e, u8_and1 d.1 d.2]
    unfold bitAt
    rw [Bool.eq_iff_iff]; simp
  · have c' : ¬ ((0 : Int) ≤ (i : Int) ∧ (i : Int) ≤ 8 * (b.length : Int) - 1) := by simpa using c
    exact ev_some (bitAt_out (by omega)).symm
theorem spec_BitsHas.ev (z : Bool) (b : List Int) (h : niceB b) (i : Nat) (hi : i ≤ 4611686018427387904) : Ev (fun k => spec_BitsHas.f k z b (i : Int)) (bitAt b i) := by
  have hl := h.1
  have e8 : Int.tdiv (i : Int) 8 = ((i / 8 : Nat) : Int) := tdiv_nat i 8
  have m8 : Int.tmod (i : Int) 8 = ((i % 8 : Nat) : Int) := tmod_nat i 8
  have q := rd_nice h ((i / 8 : Nat) : Int)
  refine ev_step ?_
  simp only [spec_BitsHas.f, spec_BitsHas.b]
  rw [e8, m8, w64n (by omega), w64 (n := rdI b _) (by omega) (by omega)]
  refine ev_pos (by omega) (ev_ite (fun c => ?_) fun c => ev_some (bitAt_out (by omega)).symm)
  refine ev_pos (by omega) (ev_pos (by omega) (ev_pos (by omega) (ev_some ?_)))
  have e : shrI .i64 (rdI b ((i / 8 : Nat) : Int)) ((i % 8 : Nat) : Int) = rdI b ((i / 8 : Nat) : Int) / 2 ^ (i % 8) := by
    unfold shrI
    rw [toNat_nat, Nat.min_eq_left (by show i % 8 ≤ 64; omega)]
  have d := div_pow_bd q.1 q.2 (i % 8)
  rw [e, Int.tmod_eq_emod_of_nonneg d.1]
  unfold bitAt
  rw [Bool.eq_iff_iff]; simp
theorem impl_BitsList.ev0 (z : Bool) (b : List Int) (h : niceB b) : ∀ (d n : Nat) (acc : List Int), n + d = 8 * b.length → acc.length ≤ n → Ev (fun k => impl_BitsList.l0 k z b acc ((8 * b.length : Nat) : Int) (n : Int)) (false, acc ++ (bitsFrom b n d).map fun (n : Nat) => (n : Int))
  | 0, n, acc, hn, ha => by
    refine ev_step ?_
    simp only [impl_BitsList.l0, impl_BitsList.l0b]
    exact ev_neg (by omega) (ev_some (by simp [bitsFrom]))
  | d + 1, n, acc, hn, ha => by
    have hl := h.1
    refine ev_step ?_
    simp only [impl_BitsList.l0, impl_BitsList.l0b]
    refine ev_pos (by omega) (Ev.bind (impl_BitsHas.ev z b h n (by omega)) ?_)
    rw [w64s (by omega)]
    unfold bitsFrom
    refine ev_ite (fun c => ?_) (fun c => ?_)
    · rw [if_pos c]
      refine ev_pos (by omega) (ev_to (impl_BitsList.ev0 z b h d (n + 1) _ (by omega) (by simp; omega)) ?_)
      simp
    · rw [if_neg c]
      exact impl_BitsList.ev0 z b h d (n + 1) acc (by omega) (by omega)
theorem impl_BitsList.ev (z : Bool) (b : List Int) (h : niceB b) : Ev (fun k => impl_BitsList.f k z b) (false, bitsList b) := by
  have hl := h.1
  refine ev_step ?_
  simp only [impl_BitsList.f, impl_BitsList.b]
  rw [w64 (by omega) (by omega)]
  exact ev_to (impl_BitsList.ev0 z b h (8 * b.length) 0 [] (by omega) (by simp)) (by simp [bitsList])
theorem spec_BitsList.ev0 (z : Bool) (b : List Int) (h : niceB b) : ∀ (d n : Nat) (acc : List Int), n + d = 8 * b.length → acc.length ≤ n → Ev (fun k => spec_BitsList.l0 k z b acc (n : Int)) (false, acc ++ (bitsFrom b n d).map fun (n : Nat) => (n : Int))
  | 0, n, acc, hn, ha => by
    have hl := h.1
    refine ev_step ?_
    simp only [spec_BitsList.l0, spec_BitsList.l0b]
    rw [w64 (n := 8 * (b.length : Int)) (by omega) (by omega)]
    exact ev_neg (by omega) (ev_some (by simp [bitsFrom]))
  | d + 1, n, acc, hn, ha => by
    have hl := h.1
    refine ev_step ?_
    simp only [spec_BitsList.l0, spec_BitsList.l0b]
    rw [w64 (n := 8 * (b.length : Int)) (by omega) (by omega)]
    refine ev_pos (by omega) (Ev.bind (spec_BitsHas.ev z b h n (by omega)) ?_)
    rw [w64s (by omega)]
    unfold bitsFrom
    refine ev_ite (fun c => ?_) (fun c => ?_)
    · rw [if_pos c]
      refine ev_pos (by omega) (ev_to (spec_BitsList.ev0 z b h d (n + 1) _ (by omega) (by simp; omega)) ?_)
      simp
    · rw [if_neg c]
      exact spec_BitsList.ev0 z b h d (n + 1) acc (by omega) (by omega)
theorem spec_BitsList.ev (z : Bool) (b : List Int) (h : niceB b) : Ev (fun k => spec_BitsList.f k z b) (false, bitsList b) := by
  refine ev_step ?_
  simp only [spec_BitsList.f, spec_BitsList.b]
  exact ev_to (spec_BitsList.ev0 z b h (8 * b.length) 0 [] (by omega) (by simp)) (by simp [bitsList])
end Go.Proofs.YtjffolalgcmhaaaGreatDoorG
namespace Go.Proofs.YtjffolalgcmhaaaGreatDoorG
open Go Go.Proofs.YtjffolalgcmhaaaGreatDoorRv Go.RowKit
set_option linter.unusedVariables false
set_option linter.unusedSimpArgs false

theorem Rows.few {l : List Row} (h : Rows l) : l.length ≤ 1048576 := h.1
theorem QcV.few_cp {q : QcV} (h : q.few) : q.cp.few := ⟨h.1, h.2.1, fewB_cp h.2.2⟩
theorem QcV.byt_cp {q : QcV} (h : q.byt) : q.cp.byt := ⟨h.1, h.2.1, fun b hb => by
  obtain ⟨x, hx, rfl⟩ := List.mem_map.1 hb
  exact h.2.2 x hx⟩
end Go.Proofs.YtjffolalgcmhaaaGreatDoorG
namespace Go.Proofs.YtjffolalgcmhaaaGreatDoorG
open Go Go.Proofs.YtjffolalgcmhaaaGreatDoorRv Go.RowKit
set_option linter.unusedVariables false
set_option linter.unusedSimpArgs false

def FitE (l : List En) : Prop := l.length ≤ 9223372036854775807 ∧ ∀ r ∈ l, r.tag.length ≤ 9223372036854775807
def FewE (l : List En) : Prop := l.length ≤ 1048576 ∧ ∀ r ∈ l, okB r.tag
theorem fewE_cp {l : List En} (h : FewE l) : FewE (l.map En.cp) := ⟨by simpa using h.1, fun x hx => by
  obtain ⟨q, hq, rfl⟩ := List.mem_map.1 hx
  exact h.2 q hq⟩
theorem fitE_of {l : List En} (h : GoodL En.good l) : FitE l := ⟨h.1, fun x hx => (h.2 x hx).2.2.1⟩
theorem laws_szEntryS.ev0 (z : Bool) (l : List En) (hl : l.length ≤ 1048576) (h : ∀ r ∈ l, r.tag.length ≤ 9223372036854775807) : ∀ (d n : Nat) (a : Int), n + d = l.length → 0 ≤ a → a ≤ 1048576 → ∃ q, Ev (fun k => laws_szEntryS.l0 k z (l.map En.t) a (n : Int)) q ∧ SzR (∀ r ∈ l.drop n, okB r.tag) a q
  | 0, n, a, hn, h0, h1 => by
    refine ⟨a, ev_step ?_, Or.inr ⟨h0, by omega, fun r hr => ?_⟩⟩
    · simp only [laws_szEntryS.l0, laws_szEntryS.l0b, List.length_map]
      exact ev_neg (by omega) (ev_some rfl)
    · rw [List.drop_of_length_le (by omega)] at hr; cases hr
  | d + 1, n, a, hn, h0, h1 => by
    have hlt : n < l.length := by omega
    obtain ⟨q, e, s⟩ := laws_szEntry.ev l[n].who l[n].high l[n].tz l[n].tag (h _ (List.getElem_mem hlt)) a h0 h1
    rcases s with rfl | ⟨s1, s2, s3⟩
    · refine ⟨-1, ev_step ?_, Or.inl rfl⟩
      simp only [laws_szEntryS.l0, laws_szEntryS.l0b, List.length_map, Int.toNat_natCast, en_at hlt, En.c0, En.c1, En.c2, En.c2z]
      exact ev_pos (by omega) (ev_pos (by omega) (ev_pos (by omega) (Ev.bind e (ev_pos (by omega) (ev_some rfl)))))
    · obtain ⟨p, e2, s'⟩ := laws_szEntryS.ev0 z l hl h d (n + 1) q (by omega) s1 (by omega)
      refine ⟨p, ev_step ?_, ?_⟩
      · simp only [laws_szEntryS.l0, laws_szEntryS.l0b, List.length_map, Int.toNat_natCast, en_at hlt, En.c0, En.c1, En.c2, En.c2z, succ_nat n (by omega)]
        exact ev_pos (by omega) (ev_pos (by omega) (ev_pos (by omega) (Ev.bind e (ev_neg (by omega) e2))))
      · rcases s' with rfl | ⟨t1, t2, t3⟩
        · exact Or.inl rfl
        · refine Or.inr ⟨t1, by omega, fun r hr => ?_⟩
          rw [List.drop_eq_getElem_cons hlt] at hr
          rcases List.mem_cons.1 hr with rfl | hr
          · exact s3
          · exact t3 r hr
theorem laws_szEntryS.ev (z : Bool) (l : List En) (h : FitE l) (a : Int) (h0 : 0 ≤ a) (h1 : a ≤ 1048576) : ∃ q, Ev (fun k => laws_szEntryS.f k z (l.map En.t) a) q ∧ SzR (FewE l) a q := by
  have hl := h.1
  have e : wrap64 (a - (l.length : Int)) = a - (l.length : Int) := w64 (by omega) (by omega)
  by_cases c : (l.length : Int) ≤ a
  · obtain ⟨q, e2, s⟩ := laws_szEntryS.ev0 z l (by clear e; omega) h.2 l.length 0 (a - l.length) (by omega) (by clear e; omega) (by clear e; omega)
    refine ⟨q, ev_step ?_, ?_⟩
    · simp only [laws_szEntryS.f, laws_szEntryS.b, List.length_map, e]
      clear e
      exact ev_neg (by omega) e2
    · clear e
      rcases s with rfl | ⟨t1, t2, t3⟩
      · exact Or.inl rfl
      · exact Or.inr ⟨t1, by omega, by omega, t3⟩
  · refine ⟨-1, ev_step ?_, Or.inl rfl⟩
    simp only [laws_szEntryS.f, laws_szEntryS.b, List.length_map, e]
    clear e
    exact ev_pos (by omega) (ev_some rfl)
theorem laws_toEntryS.ev (z : Bool) (l : List En) (h : FewE l) : Ev (fun k => laws_toEntryS.f k z (l.map En.t)) (false, (l.map En.cp).map En.t) := by
  have hl : l.length ≤ 1048576 := h.1
  refine ev_step ?_
  simp only [laws_toEntryS.f, laws_toEntryS.b, List.length_map]
  refine ev_pos trivial (ev_pos (by omega) (ev_pos (by omega) ?_))
  have key : ∀ (d n : Nat) (ys : List T), n + d = l.length → ys.length = l.length → ys.take n = ((l.map En.cp).map En.t).take n → Ev (fun k => laws_toEntryS.l0 k z (l.map En.t) ys (n : Int)) (false, (l.map En.cp).map En.t) := by
    intro d
    induction d with
    | zero =>
      intro n ys hn hy ht
      refine ev_step ?_
      simp only [laws_toEntryS.l0, laws_toEntryS.l0b, List.length_map]
      refine ev_neg (by omega) (ev_some ?_)
      rw [List.take_of_length_le (by omega), List.take_of_length_le (by simp; omega)] at ht
      rw [ht]
    | succ d ih =>
      intro n ys hn hy ht
      have hlt : n < l.length := by omega
      refine ev_step ?_
      have i2 := ih (n + 1) (ys.set n (l[n].cp).t) (by omega) (by simp [hy]) (by
        rw [List.take_succ_eq_append_getElem (by simp; omega), List.take_succ_eq_append_getElem (by simp; omega), List.take_set_of_le (Nat.le_refl n), ht, List.getElem_set_self]
        simp)
      simp only [laws_toEntryS.l0, laws_toEntryS.l0b, List.length_map, succ_nat n (by omega), Int.toNat_natCast, en_at hlt, En.c0, En.c1, En.c2, En.c2z]
      exact ev_pos (by omega) (ev_pos (by omega) (ev_pos (by omega) (Ev.bind (laws_toEntry.ev l[n].who l[n].high l[n].tz l[n].tag (h.2 _ (List.getElem_mem hlt))) (ev_pos (by omega) (ev_pos (by omega) i2)))))
  exact key l.length 0 _ (by omega) (by simp) (by simp)
theorem laws_eqEntryS.ev (y z : Bool) (l : List En) (h : FewE l) : Ev (fun k => laws_eqEntryS.f k y (l.map En.t) z (l.map En.t)) true := by
  have hl : l.length ≤ 1048576 := h.1
  refine ev_step ?_
  simp only [laws_eqEntryS.f, laws_eqEntryS.b]
  refine ev_neg (by simp) ?_
  have key : ∀ (d n : Nat), n + d = l.length → Ev (fun k => laws_eqEntryS.l0 k y (l.map En.t) z (l.map En.t) (n : Int)) true := by
    intro d
    induction d with
    | zero =>
      intro n hn
      refine ev_step ?_
      simp only [laws_eqEntryS.l0, laws_eqEntryS.l0b, List.length_map]
      exact ev_neg (by omega) (ev_some rfl)
    | succ d ih =>
      intro n hn
      have hlt : n < l.length := by omega
      refine ev_step ?_
      simp only [laws_eqEntryS.l0, laws_eqEntryS.l0b, List.length_map, Int.toNat_natCast, en_at hlt, En.c0, En.c1, En.c2, En.c2z, succ_nat n (by omega)]
      exact ev_pos (by omega) (ev_pos (by omega) (ev_pos (by omega) (ev_pos (by omega) (ev_pos (by omega) (Ev.bind (laws_eqEntry.ev l[n].who l[n].high l[n].tz l[n].tz l[n].tag (h.2 _ (List.getElem_mem hlt))) (ev_neg (by simp) (ih (n + 1) (by omega))))))))
  exact key l.length 0 (by omega)
theorem laws_szTc.ev (v : Int) (z : Bool) (l : List En) (h : FitE l) (a : Int) (h0 : 0 ≤ a) (h1 : a ≤ 1048576) : ∃ q, Ev (fun k => laws_szTc.f k v z (l.map En.t) a) q ∧ SzR (FewE l) a q := by
  obtain ⟨q, e, s⟩ := laws_szEntryS.ev z l h a h0 h1
  rcases s with rfl | ⟨s1, s2, s3⟩
  · refine ⟨-1, ev_step ?_, Or.inl rfl⟩
    simp only [laws_szTc.f, laws_szTc.b]
    exact Ev.bind e (ev_pos (by omega) (ev_some rfl))
  · refine ⟨q, ev_step ?_, Or.inr ⟨s1, s2, s3⟩⟩
    simp only [laws_szTc.f, laws_szTc.b]
    exact Ev.bind e (ev_neg (by omega) (ev_some rfl))
theorem laws_toTc.ev (v : Int) (z : Bool) (l : List En) (h : FewE l) : Ev (fun k => laws_toTc.f k v z (l.map En.t)) (v, false, (l.map En.cp).map En.t) := by
  refine ev_step ?_
  simp only [laws_toTc.f, laws_toTc.b]
  exact Ev.bind (laws_toEntryS.ev z l h) (ev_some rfl)
theorem laws_eqTc.ev (v : Int) (y z : Bool) (l : List En) (h : FewE l) : Ev (fun k => laws_eqTc.f k v y (l.map En.t) v z (l.map En.t)) true := by
  refine ev_step ?_
  simp only [laws_eqTc.f, laws_eqTc.b]
  exact ev_neg (by simp) (Ev.bind (laws_eqEntryS.ev y z l h) (ev_neg (by simp) (ev_some rfl)))


end Go.Proofs.YtjffolalgcmhaaaGreatDoorG
namespace Go.Proofs.YtjffolalgcmhaaaGreatDoorG
open Go Go.Proofs.YtjffolalgcmhaaaGreatDoorRv Go.RowKit
set_option linter.unusedVariables false
set_option linter.unusedSimpArgs false

theorem Head.byt_cp {x : Head} (h : x.byt) : x.cp.byt := ⟨h.1, h.2.1, QcV.byt_cp h.2.2⟩
end Go.Proofs.YtjffolalgcmhaaaGreatDoorG
namespace Go.Proofs.YtjffolalgcmhaaaGreatDoorG
open Go Go.Proofs.YtjffolalgcmhaaaGreatDoorRv Go.RowKit
set_option linter.unusedVariables false
set_option linter.unusedSimpArgs false

structure QcK (q : QcV) : Prop where
  v : isNum q.v = true
  h : isNum q.h = true
  blk : q.blk.length = 32
  bits : q.bits.length ≤ 2
  cnt : q.tags.length ≤ 16
  tags : ∀ b ∈ q.tags, b.l.length = 32
structure HeadK (x : Head) : Prop where
  v : isNum x.v = true
  h : isNum x.h = true
  p : isNum x.p = true
  par : x.par.length = 32
  root : x.root.length = 32
  q : QcK x.q
end Go.Proofs.YtjffolalgcmhaaaGreatDoorG
namespace Go.Proofs.YtjffolalgcmhaaaGreatDoorG
open Go Go.Proofs.YtjffolalgcmhaaaGreatDoorRv Go.RowKit
set_option linter.unusedVariables false
set_option linter.unusedSimpArgs false


def str (l : List UInt8) : ByteArray := ⟨l.toArray⟩
theorem str_app (a b : List UInt8) : str a ++ str b = str (a ++ b) := by
  unfold str
  rw [ByteArray.mk_append_mk]

theorem str_sz (l : List UInt8) : (str l).size = l.length := by simp [str, ByteArray.size]
theorem lit_sz (l : List UInt8) : (ByteArray.mk (List.toArray l)).size = l.length := by simp [ByteArray.size]
theorem strOf_sz (l : List Int) : (strOf l).size = l.length := by simp [strOf, ByteArray.size]
theorem digits_le : ∀ (d u : Nat), u < 10 ^ (d + 1) → (Lib.decDigits u).length ≤ d + 1
  | 0, u, h => by rw [Lib.decDigits, dif_pos (by simpa using h)]; simp
  | d + 1, u, h => by
    by_cases c : u < 10
    · rw [Lib.decDigits, dif_pos c]; simp
    · rw [Lib.decDigits, dif_neg c]
      have e : 10 ^ (d + 1 + 1) = 10 ^ (d + 1) * 10 := Nat.pow_succ 10 (d + 1)
      have := digits_le d (u / 10) (by omega)
      simp only [List.length_append, List.length_cons, List.length_nil]
      omega
theorem digits_pos (u : Nat) : Lib.decDigits u ≠ [] := by
  rw [Lib.decDigits]
  split <;> simp

def numT (n : Int) : ByteArray := if isNum n = true then itoaB n else ⟨#[]⟩
theorem itoa_pos {n : Int} (h : 0 ≤ n) : itoaB n = str (Lib.decDigits n.toNat) := by
  unfold itoaB Lib.itoa str
  rw [if_neg (by omega)]
theorem numT_sz (n : Int) : (numT n).size ≤ 20 := by
  unfold numT
  split
  · rename_i h
    have h := isNum_iff.1 h
    rw [itoa_pos h.1, str_sz]
    exact Nat.le_trans (digits_le 18 n.toNat (by omega)) (by decide)
  · simp [ByteArray.size]
theorem strconv_Itoa.ev {n : Int} (h : isNum n = true) : Ev (fun k => strconv_Itoa.f k n) (itoaB n) := by
  have h := isNum_iff.1 h
  simp only [strconv_Itoa.f]
  exact ev_pos (by unfold inI; exact decide_eq_true ⟨by omega, by omega⟩) (ev_some rfl)
theorem impl_NumText.ev (n : Int) : Ev (fun k => impl_NumText.f k n) (numT n) := by
  refine ev_step ?_
  simp only [impl_NumText.f, impl_NumText.b]
  unfold numT
  refine Ev.bind (impl_isNum.ev n) (ev_ite (fun q => ev_some ?_) (fun q => ?_))
  · rw [if_neg q]
  · have q : isNum n = true := by simpa using q
    rw [if_pos q]
    exact Ev.bind (strconv_Itoa.ev q) (ev_some rfl)
theorem digit_str {u : Nat} (h : u < 10) : strOf [(wrap64 ((48 : Int) + (u : Int))) % 256] = str [UInt8.ofNat (48 + u)] := by
  have : (wrap64 ((48 : Int) + (u : Int)) % 256).toNat = 48 + u := by unfold wrap64; omega
  simp [strOf, str, this]
theorem spec_NumText.ev0 : ∀ (d u : Nat) (s : List UInt8), u < 10 ^ (d + 1) → d ≤ 18 → s.length + d ≤ 30 → Ev (fun k => spec_NumText.l0 k (u : Int) (str s)) (str (Lib.decDigits u ++ s))
  | d, u, s, h, hd, hs => by
    have h18 : 10 ^ (d + 1) ≤ 10 ^ 19 := Nat.pow_le_pow_right (by decide) (by omega)
    refine ev_step ?_
    simp only [spec_NumText.l0, spec_NumText.l0b]
    by_cases c : u < 10
    · rw [digit_str c]
      refine ev_neg (by omega) (ev_pos (by rw [str_sz, str_sz]; simp; omega) (ev_some ?_))
      rw [str_app, Lib.decDigits, dif_pos c]
    · have e1 : Int.tmod (u : Int) 10 = ((u % 10 : Nat) : Int) := by rw [Int.tmod_eq_emod_of_nonneg (by omega)]; omega
      have e2 : wrap64 (Int.tdiv (u : Int) 10) = ((u / 10 : Nat) : Int) := by rw [Int.tdiv_eq_ediv_of_nonneg (by omega), w64 (by omega) (by omega)]; omega
      rw [e1, e2, digit_str (u := u % 10) (by omega)]
      cases d with
      | zero => simp at h; omega
      | succ d =>
        have e : 10 ^ (d + 1 + 1) = 10 ^ (d + 1) * 10 := Nat.pow_succ 10 (d + 1)
        have ih := spec_NumText.ev0 d (u / 10) (UInt8.ofNat (48 + u % 10) :: s) (by omega) (by omega) (by simp; omega)
        refine ev_pos (by omega) (ev_pos (by rw [str_sz, str_sz]; simp; omega) ?_)
        rw [str_app]
        refine ev_to ih ?_
        rw [Lib.decDigits.eq_def u, dif_neg c]
        simp
theorem spec_NumText.ev (n : Int) : Ev (fun k => spec_NumText.f k n) (numT n) := by
  refine ev_step ?_
  simp only [spec_NumText.f, spec_NumText.b]
  unfold numT
  refine Ev.bind (spec_l01Num.ev n) (ev_ite (fun q => ev_some ?_) (fun q => ?_))
  · rw [if_neg q]
  · have q : isNum n = true := by simpa using q
    rw [if_pos q]
    have h := isNum_iff.1 q
    have := spec_NumText.ev0 18 n.toNat [] (by omega) (by omega) (by simp)
    rw [List.append_nil, show ((n.toNat : Nat) : Int) = n by omega] at this
    rw [itoa_pos h.1]
    exact this
theorem hex_bt : ∀ n : Fin 16, btI (⟨#[48, 49, 50, 51, 52, 53, 54, 55, 56, 57, 97, 98, 99, 100, 101, 102]⟩ : ByteArray) ((n.val : Nat) : Int) = hexd ((n.val : Nat) : Int) := by decide
theorem hex_at {n : Int} (h0 : 0 ≤ n) (h1 : n < 16) : btI (⟨#[48, 49, 50, 51, 52, 53, 54, 55, 56, 57, 97, 98, 99, 100, 101, 102]⟩ : ByteArray) n = hexd n := by
  have := hex_bt ⟨n.toNat, by omega⟩
  rwa [show ((n.toNat : Nat) : Int) = n by omega] at this
theorem u8_15 : ∀ n : Fin 256, Go.bits .and .u8 ((n.val : Nat) : Int) 15 = ((n.val % 16 : Nat) : Int) := by decide +kernel
theorem u8_and15 {x : Int} (h0 : 0 ≤ x) (h1 : x < 256) : Go.bits .and .u8 x 15 = x % 16 := by
  have := u8_15 ⟨x.toNat, by omega⟩
  simp only at this
  rw [show ((x.toNat : Nat) : Int) = x by omega] at this
  rw [this]
  omega
theorem shr4 (x : Int) : shrI .u8 x 4 = x / 16 := by
  unfold shrI
  rfl
theorem rd_nib {l : List Int} (h : niceB l) {n : Nat} (hn : n < l.length) : 0 ≤ rdI l (n : Int) ∧ rdI l (n : Int) < 256 := by
  rw [rd_nat hn]
  exact h.2 _ (List.getElem_mem hn)
def hexT (l : List Int) : ByteArray := strOf (hex l)
theorem hexT_sz (l : List Int) : (hexT l).size = 2 * l.length := by rw [hexT, strOf_sz, hex_length]
theorem impl_HexText.ev0 (z : Bool) (l : List Int) (h : niceB l) : ∀ (d n : Nat) (acc : List Int), n + d = l.length → acc.length ≤ 2 * n → Ev (fun k => impl_HexText.l0 k acc z l (l.length : Int) (n : Int)) (strOf (acc ++ hex (l.drop n))) := by
  have hl := h.1
  intro d
  induction d with
  | zero =>
    intro n acc hn ha
    refine ev_step ?_
    simp only [impl_HexText.l0, impl_HexText.l0b]
    refine ev_neg (by omega) (ev_some ?_)
    rw [List.drop_of_length_le (by omega)]
    simp [hex]
  | succ d ih =>
    intro n acc hn ha
    have hlt : n < l.length := by omega
    have b := rd_nib h hlt
    have i2 := ih (n + 1) (acc ++ [hexd (rdI l (n : Int) / 16), hexd (rdI l (n : Int) % 16)]) (by omega) (by simp; omega)
    refine ev_step ?_
    simp only [impl_HexText.l0, impl_HexText.l0b]
    rw [u8_and15 b.1 b.2, shr4, hex_at (n := rdI l (n : Int) / 16) (by omega) (by omega), hex_at (n := rdI l (n : Int) % 16) (by omega) (by omega), w64s (by omega), lit_sz]
    simp only [List.length_cons, List.length_nil]
    refine ev_pos (by omega) (ev_pos (by omega) (ev_pos (by omega) (ev_pos (by omega) (ev_pos (by omega) (ev_pos (by omega) (ev_pos (by omega) (ev_pos (by omega) (ev_to i2 ?_))))))))
    rw [drop_rd hlt, hex]
    simp
theorem impl_HexText.ev (z : Bool) (l : List Int) (h : niceB l) : Ev (fun k => impl_HexText.f k z l) (hexT l) := by
  refine ev_step ?_
  simp only [impl_HexText.f, impl_HexText.b]
  exact ev_to (impl_HexText.ev0 z l h l.length 0 [] (by omega) (by simp)) (by simp [hexT])
theorem spec_l01Hex.ev (n : Int) (h0 : 0 ≤ n) (h1 : n < 16) : Ev (fun k => spec_l01Hex.f k n) (hexd n) := by
  refine ev_step ?_
  simp only [spec_l01Hex.f, spec_l01Hex.b]
  unfold hexd
  refine ev_ite (fun q => ev_some ?_) (fun q => ev_some ?_)
  · rw [if_pos q, w64 (by omega) (by omega), Int.emod_eq_of_lt (by omega) (by omega)]
  · rw [if_neg q, w64 (by omega) (by omega), Int.emod_eq_of_lt (by omega) (by omega)]
theorem spec_HexText.ev0 (z : Bool) (l : List Int) (h : niceB l) : ∀ (d n : Nat) (acc : List Int), n + d = l.length → acc.length ≤ 2 * n → Ev (fun k => spec_HexText.l0 k acc z l (l.length : Int) (n : Int)) (strOf (acc ++ hex (l.drop n))) := by
  have hl := h.1
  intro d
  induction d with
  | zero =>
    intro n acc hn ha
    refine ev_step ?_
    simp only [spec_HexText.l0, spec_HexText.l0b]
    refine ev_neg (by omega) (ev_some ?_)
    rw [List.drop_of_length_le (by omega)]
    simp [hex]
  | succ d ih =>
    intro n acc hn ha
    have hlt : n < l.length := by omega
    have b := rd_nib h hlt
    have i2 := ih (n + 1) (acc ++ [hexd (rdI l (n : Int) / 16), hexd (rdI l (n : Int) % 16)]) (by omega) (by simp; omega)
    refine ev_step ?_
    simp only [spec_HexText.l0, spec_HexText.l0b]
    rw [w64 (n := rdI l (n : Int)) (by omega) (by omega), Int.tdiv_eq_ediv_of_nonneg b.1, Int.tmod_eq_emod_of_nonneg b.1, w64 (n := rdI l (n : Int) / 16) (by omega) (by omega), w64s (by omega)]
    refine ev_pos (by omega) (ev_pos (by omega) (ev_pos (by omega) (Ev.bind (spec_l01Hex.ev _ (by omega) (by omega)) (Ev.bind (spec_l01Hex.ev _ (by omega) (by omega)) (ev_pos (by omega) (ev_to i2 ?_))))))
    rw [drop_rd hlt, hex]
    simp
theorem spec_HexText.ev (z : Bool) (l : List Int) (h : niceB l) : Ev (fun k => spec_HexText.f k z l) (hexT l) := by
  refine ev_step ?_
  simp only [spec_HexText.f, spec_HexText.b]
  exact ev_to (spec_HexText.ev0 z l h l.length 0 [] (by omega) (by simp)) (by simp [hexT])
def shortT (l : List Int) : ByteArray := hexT (l.take 4)
theorem shortT_sz (l : List Int) : (shortT l).size ≤ 8 := by rw [shortT, hexT_sz, List.length_take]; omega
theorem impl_Short.ev (z : Bool) (l : List Int) (h : niceB l) : Ev (fun k => impl_Short.f k z l) (shortT l) := by
  have e : (mnI (l.length : Int) 4).toNat = min l.length 4 := by unfold mnI; split <;> omega
  have b : 0 ≤ mnI (l.length : Int) 4 ∧ mnI (l.length : Int) 4 ≤ (l.length : Int) := by unfold mnI; split <;> omega
  have e2 : l.take (min l.length 4) = l.take 4 := by rw [List.take_eq_take_iff]; omega
  refine ev_step ?_
  simp only [impl_Short.f, impl_Short.b, List.drop_zero]
  rw [e, e2]
  exact ev_pos b.1 (ev_pos b.2 (ev_pos b.1 (Ev.bind (impl_HexText.ev _ _ (niceB_take h 4)) (ev_some rfl))))
theorem spec_Short.ev (z : Bool) (l : List Int) (h : niceB l) : Ev (fun k => spec_Short.f k z l) (shortT l) := by
  refine ev_step ?_
  simp only [spec_Short.f, spec_Short.b, List.drop_zero]
  refine ev_ite (fun q => ev_pos (by omega) (Ev.bind (spec_HexText.ev _ _ (niceB_take h 4)) (ev_some rfl))) (fun q => Ev.bind (spec_HexText.ev _ _ h) (ev_some ?_))
  rw [shortT, List.take_of_length_le (by omega)]
def placeT (a b : Int) : ByteArray := numT a ++ (⟨#[47]⟩ : ByteArray) ++ numT b
theorem placeT_sz (a b : Int) : (placeT a b).size ≤ 41 := by
  have := numT_sz a
  have := numT_sz b
  unfold placeT
  simp only [ByteArray.size_append, lit_sz, List.length_cons, List.length_nil]
  omega
theorem impl_place.ev (a b : Int) : Ev (fun k => impl_place.f k a b) (placeT a b) := by
  have h1 := numT_sz a
  have h2 := numT_sz b
  refine ev_step ?_
  simp only [impl_place.f, impl_place.b]
  refine Ev.bind (impl_NumText.ev a) (ev_pos ?_ (Ev.bind (impl_NumText.ev b) (ev_pos ?_ (ev_some rfl)))) <;> (simp only [ByteArray.size_append, lit_sz, List.length_cons, List.length_nil]; omega)
end Go.Proofs.YtjffolalgcmhaaaGreatDoorG
namespace Go.Proofs.YtjffolalgcmhaaaGreatDoorG
open Go Go.Proofs.YtjffolalgcmhaaaGreatDoorRv Go.RowKit
set_option linter.unusedVariables false
set_option linter.unusedSimpArgs false
def voteT (v h : Int) (blk : List Int) (who : Int) : ByteArray := (⟨#[118, 111, 116, 101, 32]⟩ : ByteArray) ++ placeT v h ++ (⟨#[32]⟩ : ByteArray) ++ shortT blk ++ (⟨#[32]⟩ : ByteArray) ++ numT who
theorem impl_VoteText.ev (v h : Int) (y : Bool) (blk : List Int) (hb : niceB blk) (who : Int) (x : Bool) (tag : List Int) : Ev (fun k => impl_VoteText.f k v h y blk who x tag) (voteT v h blk who) := by
  have := placeT_sz v h
  have := numT_sz v
  have := numT_sz h
  have := shortT_sz blk
  have := numT_sz who
  refine ev_step ?_
  simp only [impl_VoteText.f, impl_VoteText.b]
  refine Ev.bind (impl_place.ev v h) (ev_pos ?_ (ev_pos ?_ (Ev.bind (impl_Short.ev _ _ hb) (ev_pos ?_ (ev_pos ?_ (Ev.bind (impl_NumText.ev who) (ev_pos ?_ (ev_some rfl)))))))) <;> (simp only [ByteArray.size_append, lit_sz, List.length_cons, List.length_nil]; omega)
theorem spec_VoteText.ev (v h : Int) (y : Bool) (blk : List Int) (hb : niceB blk) (who : Int) (x : Bool) (tag : List Int) : Ev (fun k => spec_VoteText.f k v h y blk who x tag) (voteT v h blk who) := by
  have := placeT_sz v h
  have := numT_sz v
  have := numT_sz h
  have := shortT_sz blk
  have := numT_sz who
  refine ev_step ?_
  simp only [spec_VoteText.f, spec_VoteText.b]
  refine Ev.bind (spec_NumText.ev v) (ev_pos ?_ (ev_pos ?_ (Ev.bind (spec_NumText.ev h) (ev_pos ?_ (ev_pos ?_ (Ev.bind (spec_Short.ev _ _ hb) (ev_pos ?_ (ev_pos ?_ (Ev.bind (spec_NumText.ev who) (ev_pos ?_ (ev_some (by unfold voteT; simp only [placeT, ByteArray.append_assoc])))))))))))) <;> (simp only [ByteArray.size_append, lit_sz, List.length_cons, List.length_nil]; omega)
def headT (x : Head) : ByteArray := (⟨#[104, 101, 97, 100, 32]⟩ : ByteArray) ++ placeT x.v x.h ++ (⟨#[32, 98, 121, 32]⟩ : ByteArray) ++ numT x.p ++ (⟨#[32, 111, 110, 32]⟩ : ByteArray) ++ shortT x.par ++ (⟨#[32, 114, 111, 111, 116, 32]⟩ : ByteArray) ++ shortT x.root
theorem headT_sz (x : Head) : (headT x).size ≤ 120 := by
  have := placeT_sz x.v x.h
  have := numT_sz x.v
  have := numT_sz x.h
  have := shortT_sz x.par
  have := shortT_sz x.root
  have := numT_sz x.p
  unfold headT
  (simp only [ByteArray.size_append, lit_sz, List.length_cons, List.length_nil]; omega)
theorem impl_HeadText.ev (x : Head) (h1 : niceB x.par) (h2 : niceB x.root) : Ev (fun k => impl_HeadText.f k x.v x.h x.p x.az x.par x.rz x.root x.q.v x.q.h x.q.bz x.q.blk x.q.mz x.q.bits x.q.tz (x.q.tags.map By.t)) (headT x) := by
  have := placeT_sz x.v x.h
  have := numT_sz x.v
  have := numT_sz x.h
  have := shortT_sz x.par
  have := shortT_sz x.root
  have := numT_sz x.p
  refine ev_step ?_
  simp only [impl_HeadText.f, impl_HeadText.b]
  refine Ev.bind (impl_place.ev x.v x.h) (ev_pos ?_ (ev_pos ?_ (Ev.bind (impl_NumText.ev x.p) (ev_pos ?_ (ev_pos ?_ (Ev.bind (impl_Short.ev _ _ h1) (ev_pos ?_ (ev_pos ?_ (Ev.bind (impl_Short.ev _ _ h2) (ev_pos ?_ (ev_some rfl))))))))))) <;> (simp only [ByteArray.size_append, lit_sz, List.length_cons, List.length_nil]; omega)
theorem spec_HeadText.ev (x : Head) (h1 : niceB x.par) (h2 : niceB x.root) : Ev (fun k => spec_HeadText.f k x.v x.h x.p x.az x.par x.rz x.root x.q.v x.q.h x.q.bz x.q.blk x.q.mz x.q.bits x.q.tz (x.q.tags.map By.t)) (headT x) := by
  have := placeT_sz x.v x.h
  have := numT_sz x.v
  have := numT_sz x.h
  have := shortT_sz x.par
  have := shortT_sz x.root
  have := numT_sz x.p
  refine ev_step ?_
  simp only [spec_HeadText.f, spec_HeadText.b]
  refine Ev.bind (spec_NumText.ev x.v) (ev_pos ?_ (ev_pos ?_ (Ev.bind (spec_NumText.ev x.h) (ev_pos ?_ (ev_pos ?_ (Ev.bind (spec_NumText.ev x.p) (ev_pos ?_ (ev_pos ?_ (Ev.bind (spec_Short.ev _ _ h1) (ev_pos ?_ (ev_pos ?_ (Ev.bind (spec_Short.ev _ _ h2) (ev_pos ?_ (ev_some (by unfold headT; simp only [placeT, ByteArray.append_assoc]))))))))))))))) <;> (simp only [ByteArray.size_append, lit_sz, List.length_cons, List.length_nil]; omega)
theorem head_nicy {x : Head} (ok : x.few) (b : x.byt) : niceB x.par ∧ niceB x.root := ⟨⟨ok.1, b.1⟩, ⟨ok.2.1, b.2.1⟩⟩
structure Blk where
  hd : Head
  tz : Bool
  txs : List By
def Blk.good (x : Blk) : Prop := Head.good x.hd ∧ GoodL By.good x.txs
def blockT (x : Blk) : ByteArray := (⟨#[98, 108, 111, 99, 107, 32]⟩ : ByteArray) ++ headT x.hd ++ (⟨#[32, 116, 120, 115, 32]⟩ : ByteArray) ++ numT (x.txs.length : Int)
theorem impl_BlockText.ev (x : Blk) (h1 : niceB x.hd.par) (h2 : niceB x.hd.root) : Ev (fun k => impl_BlockText.f k x.hd.v x.hd.h x.hd.p x.hd.az x.hd.par x.hd.rz x.hd.root x.hd.q.v x.hd.q.h x.hd.q.bz x.hd.q.blk x.hd.q.mz x.hd.q.bits x.hd.q.tz (x.hd.q.tags.map By.t) x.tz (x.txs.map By.t)) (blockT x) := by
  have := headT_sz x.hd
  have := numT_sz (x.txs.length : Int)
  refine ev_step ?_
  simp only [impl_BlockText.f, impl_BlockText.b, List.length_map]
  refine Ev.bind (impl_HeadText.ev x.hd h1 h2) (ev_pos ?_ (ev_pos ?_ (Ev.bind (impl_NumText.ev _) (ev_pos ?_ (ev_some rfl))))) <;> (simp only [ByteArray.size_append, lit_sz, List.length_cons, List.length_nil]; omega)
theorem spec_BlockText.ev (x : Blk) (h1 : niceB x.hd.par) (h2 : niceB x.hd.root) : Ev (fun k => spec_BlockText.f k x.hd.v x.hd.h x.hd.p x.hd.az x.hd.par x.hd.rz x.hd.root x.hd.q.v x.hd.q.h x.hd.q.bz x.hd.q.blk x.hd.q.mz x.hd.q.bits x.hd.q.tz (x.hd.q.tags.map By.t) x.tz (x.txs.map By.t)) (blockT x) := by
  have := headT_sz x.hd
  have := numT_sz (x.txs.length : Int)
  refine ev_step ?_
  simp only [spec_BlockText.f, spec_BlockText.b, List.length_map]
  refine Ev.bind (spec_HeadText.ev x.hd h1 h2) (ev_pos ?_ (ev_pos ?_ (Ev.bind (spec_NumText.ev _) (ev_pos ?_ (ev_some rfl))))) <;> (simp only [ByteArray.size_append, lit_sz, List.length_cons, List.length_nil]; omega)
def Blk.cp (x : Blk) : Blk := ⟨x.hd.cp, false, x.txs.map By.cp⟩
theorem laws_szBlock.ev (x : Blk) (g : Blk.good x) (a : Int) (h0 : 0 ≤ a) (h1 : a ≤ 1048576) : ∃ r, Ev (fun k => laws_szBlock.f k x.hd.v x.hd.h x.hd.p x.hd.az x.hd.par x.hd.rz x.hd.root x.hd.q.v x.hd.q.h x.hd.q.bz x.hd.q.blk x.hd.q.mz x.hd.q.bits x.hd.q.tz (x.hd.q.tags.map By.t) x.tz (x.txs.map By.t) a) r ∧ SzR (x.hd.few ∧ FewB x.txs) a r := by
  obtain ⟨r, e1, s⟩ := laws_szHead.ev x.hd (Head.fit_of g.1) a h0 h1
  rcases s with rfl | ⟨s1, s2, ok⟩
  · refine ⟨-1, ev_step ?_, .inl rfl⟩
    simp only [laws_szBlock.f, laws_szBlock.b]
    exact Ev.bind e1 (ev_pos (by omega) (ev_some rfl))
  obtain ⟨r2, e2, s⟩ := laws_szByteSS.ev x.tz x.txs (fitB_of g.2) r s1 (by omega)
  rcases s with rfl | ⟨t1, t2, ok2⟩
  · refine ⟨-1, ev_step ?_, .inl rfl⟩
    simp only [laws_szBlock.f, laws_szBlock.b]
    exact Ev.bind e1 (ev_neg (by omega) (Ev.bind e2 (ev_pos (by omega) (ev_some rfl))))
  · refine ⟨r2, ev_step ?_, .inr ⟨t1, by omega, ok, ok2⟩⟩
    simp only [laws_szBlock.f, laws_szBlock.b]
    exact Ev.bind e1 (ev_neg (by omega) (Ev.bind e2 (ev_neg (by omega) (ev_some rfl))))
theorem laws_toBlock.ev (x : Blk) (ok : x.hd.few) (ok2 : FewB x.txs) : Ev (fun k => laws_toBlock.f k x.hd.v x.hd.h x.hd.p x.hd.az x.hd.par x.hd.rz x.hd.root x.hd.q.v x.hd.q.h x.hd.q.bz x.hd.q.blk x.hd.q.mz x.hd.q.bits x.hd.q.tz (x.hd.q.tags.map By.t) x.tz (x.txs.map By.t)) (x.hd.v, x.hd.h, x.hd.p, false, x.hd.par, false, x.hd.root, x.hd.q.v, x.hd.q.h, false, x.hd.q.blk, false, x.hd.q.bits, false, (x.hd.q.tags.map By.cp).map By.t, false, (x.txs.map By.cp).map By.t) := by
  refine ev_step ?_
  simp only [laws_toBlock.f, laws_toBlock.b]
  exact Ev.bind (laws_toHead.ev x.hd ok) (Ev.bind (laws_toByteSS.ev _ _ ok2) (ev_some rfl))
theorem laws_eqBlock.ev (x : Blk) (ok : x.hd.few) (ok2 : FewB x.txs) : Ev (fun k => laws_eqBlock.f k x.hd.v x.hd.h x.hd.p x.hd.az x.hd.par x.hd.rz x.hd.root x.hd.q.v x.hd.q.h x.hd.q.bz x.hd.q.blk x.hd.q.mz x.hd.q.bits x.hd.q.tz (x.hd.q.tags.map By.t) x.tz (x.txs.map By.t) x.hd.v x.hd.h x.hd.p x.hd.az x.hd.par x.hd.rz x.hd.root x.hd.q.v x.hd.q.h x.hd.q.bz x.hd.q.blk x.hd.q.mz x.hd.q.bits x.hd.q.tz (x.hd.q.tags.map By.t) x.tz (x.txs.map By.t)) true := by
  refine ev_step ?_
  simp only [laws_eqBlock.f, laws_eqBlock.b]
  exact Ev.bind (laws_eqHead.ev x.hd ok) (ev_neg (by simp) (Ev.bind (laws_eqByteSS.ev _ _ _ ok2) (ev_neg (by simp) (ev_some rfl))))
theorem fewB_cp' {l : List By} (h : FewB l) : FewB (l.map By.cp) := ⟨by simpa using h.1, fun b hb => by
  obtain ⟨c, hc, rfl⟩ := List.mem_map.1 hb
  exact h.2 c hc⟩
structure Sd where
  k : Int
  n : Int
def Sd.good (x : Sd) : Prop := goodI x.k ∧ goodI x.n
structure Inc where
  h : Int
  n : Int
  at_ : Int
  xz : Bool
  tx : List Int
  pz : Bool
  path : List By
def Inc.good (x : Inc) : Prop := goodI x.h ∧ goodI x.n ∧ goodI x.at_ ∧ By.good ⟨x.xz, x.tx⟩ ∧ GoodL By.good x.path
def dashT (s : ByteArray) : ByteArray := if s = (⟨#[]⟩ : ByteArray) then (⟨#[45]⟩ : ByteArray) else s
theorem dashT_sz (s : ByteArray) : (dashT s).size ≤ s.size + 1 := by
  unfold dashT
  split
  · rw [lit_sz]; simp
  · omega
theorem spec_l29Or.ev (s : ByteArray) : Ev (fun k => spec_l29Or.f k s) (dashT s) := by
  refine ev_step ?_
  simp only [spec_l29Or.f, spec_l29Or.b]
  unfold dashT
  exact ev_ite (fun q => ev_some (by rw [if_pos q])) (fun q => ev_some (by rw [if_neg q]))
def inclT (x : Inc) : ByteArray := (⟨#[105, 110, 99, 108, 32]⟩ : ByteArray) ++ numT x.h ++ (⟨#[32]⟩ : ByteArray) ++ placeT x.at_ x.n ++ (⟨#[32]⟩ : ByteArray) ++ dashT (hexT x.tx)
theorem impl_InclText.ev (x : Inc) (ht : niceB x.tx) : Ev (fun k => impl_InclText.f k x.h x.n x.at_ x.xz x.tx x.pz (x.path.map By.t)) (inclT x) := by
  have := placeT_sz x.at_ x.n
  have := numT_sz x.h
  have := numT_sz x.n
  have := numT_sz x.at_
  have := hexT_sz x.tx
  have := dashT_sz (hexT x.tx)
  have := ht.1
  have key : Ev (fun k => impl_InclText.l0 k (dashT (hexT x.tx)) x.h x.n x.at_ x.xz x.tx x.pz (x.path.map By.t)) (inclT x) := by
    refine ev_step ?_
    simp only [impl_InclText.l0, impl_InclText.l0b]
    refine Ev.bind (impl_NumText.ev x.h) (ev_pos ?_ (ev_pos ?_ (Ev.bind (impl_place.ev x.at_ x.n) (ev_pos ?_ (ev_pos ?_ (ev_pos ?_ (ev_some rfl))))))) <;> (simp only [ByteArray.size_append, lit_sz, List.length_cons, List.length_nil]; omega)
  refine ev_step ?_
  simp only [impl_InclText.f, impl_InclText.b]
  unfold dashT at key
  refine Ev.bind (impl_HexText.ev _ _ ht) (ev_ite (fun q => ?_) (fun q => ?_))
  · rw [if_pos q] at key; exact key
  · rw [if_neg q] at key; exact key
theorem spec_InclText.ev (x : Inc) (ht : niceB x.tx) : Ev (fun k => spec_InclText.f k x.h x.n x.at_ x.xz x.tx x.pz (x.path.map By.t)) (inclT x) := by
  have := placeT_sz x.at_ x.n
  have := numT_sz x.h
  have := numT_sz x.n
  have := numT_sz x.at_
  have := hexT_sz x.tx
  have := dashT_sz (hexT x.tx)
  have := ht.1
  refine ev_step ?_
  simp only [spec_InclText.f, spec_InclText.b]
  refine Ev.bind (spec_NumText.ev x.h) (ev_pos ?_ (ev_pos ?_ (Ev.bind (spec_NumText.ev x.at_) (ev_pos ?_ (ev_pos ?_ (Ev.bind (spec_NumText.ev x.n) (ev_pos ?_ (ev_pos ?_ (Ev.bind (spec_HexText.ev _ _ ht) (Ev.bind (spec_l29Or.ev _) (ev_pos ?_ (ev_some (by unfold inclT; simp only [placeT, ByteArray.append_assoc]))))))))))))) <;> (simp only [ByteArray.size_append, lit_sz, List.length_cons, List.length_nil]; omega)
theorem laws_szIncl.ev (x : Inc) (g : Inc.good x) (a : Int) (h0 : 0 ≤ a) (h1 : a ≤ 1048576) : ∃ r, Ev (fun k => laws_szIncl.f k x.h x.n x.at_ x.xz x.tx x.pz (x.path.map By.t) a) r ∧ SzR (okB x.tx ∧ FewB x.path) a r := by
  obtain ⟨r, e1, s⟩ := laws_szByteS.ev x.xz x.tx g.2.2.2.1.1 a h0 h1
  rcases s with rfl | ⟨s1, s2, ok⟩
  · refine ⟨-1, ev_step ?_, .inl rfl⟩
    simp only [laws_szIncl.f, laws_szIncl.b]
    exact Ev.bind e1 (ev_pos (by omega) (ev_some rfl))
  obtain ⟨r2, e2, s⟩ := laws_szByteSS.ev x.pz x.path (fitB_of g.2.2.2.2) r s1 (by omega)
  rcases s with rfl | ⟨t1, t2, ok2⟩
  · refine ⟨-1, ev_step ?_, .inl rfl⟩
    simp only [laws_szIncl.f, laws_szIncl.b]
    exact Ev.bind e1 (ev_neg (by omega) (Ev.bind e2 (ev_pos (by omega) (ev_some rfl))))
  · refine ⟨r2, ev_step ?_, .inr ⟨t1, by omega, ok, ok2⟩⟩
    simp only [laws_szIncl.f, laws_szIncl.b]
    exact Ev.bind e1 (ev_neg (by omega) (Ev.bind e2 (ev_neg (by omega) (ev_some rfl))))
theorem laws_toIncl.ev (x : Inc) (ok : okB x.tx) (ok2 : FewB x.path) : Ev (fun k => laws_toIncl.f k x.h x.n x.at_ x.xz x.tx x.pz (x.path.map By.t)) (x.h, x.n, x.at_, false, x.tx, false, (x.path.map By.cp).map By.t) := by
  refine ev_step ?_
  simp only [laws_toIncl.f, laws_toIncl.b]
  exact Ev.bind (laws_toByteS.ev _ _ ok) (Ev.bind (laws_toByteSS.ev _ _ ok2) (ev_some rfl))
def Inc.cp (x : Inc) : Inc := ⟨x.h, x.n, x.at_, false, x.tx, false, x.path.map By.cp⟩
theorem laws_eqIncl.ev (x : Inc) (ok : okB x.tx) (ok2 : FewB x.path) : Ev (fun k => laws_eqIncl.f k x.h x.n x.at_ x.xz x.tx x.pz (x.path.map By.t) x.h x.n x.at_ x.xz x.tx x.pz (x.path.map By.t)) true := by
  refine ev_step ?_
  simp only [laws_eqIncl.f, laws_eqIncl.b]
  exact ev_neg (by simp) (ev_neg (by simp) (ev_neg (by simp) (Ev.bind (laws_eqByteS.ev _ _ _ ok) (ev_neg (by simp) (Ev.bind (laws_eqByteSS.ev _ _ _ ok2) (ev_neg (by simp) (ev_some rfl)))))))
def headsT : List Head → ByteArray
  | [] => ⟨#[]⟩
  | h :: t => ((⟨#[32]⟩ : ByteArray) ++ placeT h.v h.h) ++ headsT t
theorem app_nil (s : ByteArray) : s ++ (⟨#[]⟩ : ByteArray) = s := ByteArray.append_empty
theorem nil_app (s : ByteArray) : (⟨#[]⟩ : ByteArray) ++ s = s := ByteArray.empty_append
theorem impl_ProofText.ev0 (z : Bool) (l : List Head) (hl : l.length ≤ 1048576) : ∀ (d n : Nat) (s : ByteArray), n + d = l.length → s.size + 42 * d ≤ 60000000 → Ev (fun k => impl_ProofText.l0 k s z (l.map Head.t) (l.length : Int) (n : Int)) (s ++ headsT (l.drop n)) := by
  intro d
  induction d with
  | zero =>
    intro n s hn hs
    refine ev_step ?_
    simp only [impl_ProofText.l0, impl_ProofText.l0b]
    refine ev_neg (by omega) (ev_some ?_)
    rw [List.drop_of_length_le (by omega), headsT, app_nil]
  | succ d ih =>
    intro n s hn hs
    have hlt : n < l.length := by omega
    have := placeT_sz l[n].v l[n].h
    have := numT_sz l[n].v
    have := numT_sz l[n].h
    have i2 := ih (n + 1) (s ++ ((⟨#[32]⟩ : ByteArray) ++ placeT l[n].v l[n].h)) (by omega) (by simp only [ByteArray.size_append, lit_sz, List.length_cons, List.length_nil]; omega)
    refine ev_step ?_
    simp only [impl_ProofText.l0, impl_ProofText.l0b, List.length_map, Int.toNat_natCast, head_at hlt, Head.c0, Head.c1, succ_nat n (by omega)]
    refine ev_pos (by omega) (ev_pos (by omega) (ev_pos (by omega) ?_))
    rw [List.drop_eq_getElem_cons hlt, headsT, ← ByteArray.append_assoc]
    refine Ev.bind (impl_place.ev _ _) (ev_pos ?_ (ev_pos ?_ i2)) <;> (simp only [ByteArray.size_append, lit_sz, List.length_cons, List.length_nil]; omega)
theorem impl_ProofText.ev (x : Pf) (hl : x.heads.length ≤ 1048576) : Ev (fun k => impl_ProofText.f k x.hz (x.heads.map Head.t) x.q.v x.q.h x.q.bz x.q.blk x.q.mz x.q.bits x.q.tz (x.q.tags.map By.t)) ((⟨#[112, 114, 111, 111, 102]⟩ : ByteArray) ++ headsT x.heads) := by
  refine ev_step ?_
  simp only [impl_ProofText.f, impl_ProofText.b, List.length_map]
  exact impl_ProofText.ev0 x.hz x.heads hl x.heads.length 0 _ (by omega) (by rw [lit_sz]; simp; omega)
theorem spec_ProofText.ev0 (z : Bool) (l : List Head) (hl : l.length ≤ 1048576) : ∀ (d n : Nat) (s : ByteArray), n + d = l.length → s.size + 42 * d ≤ 60000000 → Ev (fun k => spec_ProofText.l0 k s z (l.map Head.t) (l.length : Int) (n : Int)) (s ++ headsT (l.drop n)) := by
  intro d
  induction d with
  | zero =>
    intro n s hn hs
    refine ev_step ?_
    simp only [spec_ProofText.l0, spec_ProofText.l0b]
    refine ev_neg (by omega) (ev_some ?_)
    rw [List.drop_of_length_le (by omega), headsT, app_nil]
  | succ d ih =>
    intro n s hn hs
    have hlt : n < l.length := by omega
    have := placeT_sz l[n].v l[n].h
    have := numT_sz l[n].v
    have := numT_sz l[n].h
    have i2 := ih (n + 1) (s ++ ((⟨#[32]⟩ : ByteArray) ++ placeT l[n].v l[n].h)) (by omega) (by simp only [ByteArray.size_append, lit_sz, List.length_cons, List.length_nil]; omega)
    refine ev_step ?_
    simp only [spec_ProofText.l0, spec_ProofText.l0b, List.length_map, Int.toNat_natCast, head_at hlt, Head.c0, Head.c1, succ_nat n (by omega)]
    refine ev_pos (by omega) (ev_pos (by omega) (ev_pos (by omega) ?_))
    rw [List.drop_eq_getElem_cons hlt, headsT, ← ByteArray.append_assoc]
    have e : s ++ ((⟨#[32]⟩ : ByteArray) ++ placeT l[n].v l[n].h) = s ++ (⟨#[32]⟩ : ByteArray) ++ numT l[n].v ++ (⟨#[47]⟩ : ByteArray) ++ numT l[n].h := by simp only [placeT, ByteArray.append_assoc]
    rw [e] at i2 ⊢
    refine ev_pos ?_ (Ev.bind (spec_NumText.ev _) (ev_pos ?_ (ev_pos ?_ (Ev.bind (spec_NumText.ev _) (ev_pos ?_ i2))))) <;> (simp only [ByteArray.size_append, lit_sz, List.length_cons, List.length_nil]; omega)
theorem spec_ProofText.ev (x : Pf) (hl : x.heads.length ≤ 1048576) : Ev (fun k => spec_ProofText.f k x.hz (x.heads.map Head.t) x.q.v x.q.h x.q.bz x.q.blk x.q.mz x.q.bits x.q.tz (x.q.tags.map By.t)) ((⟨#[112, 114, 111, 111, 102]⟩ : ByteArray) ++ headsT x.heads) := by
  refine ev_step ?_
  simp only [spec_ProofText.f, spec_ProofText.b, List.length_map]
  exact spec_ProofText.ev0 x.hz x.heads hl x.heads.length 0 _ (by omega) (by rw [lit_sz]; simp; omega)
theorem laws_szProof.ev (x : Pf) (g : Pf.good x) (a : Int) (h0 : 0 ≤ a) (h1 : a ≤ 1048576) : ∃ r, Ev (fun k => laws_szProof.f k x.hz (x.heads.map Head.t) x.q.v x.q.h x.q.bz x.q.blk x.q.mz x.q.bits x.q.tz (x.q.tags.map By.t) a) r ∧ SzR (FewH x.heads ∧ x.q.few) a r := by
  obtain ⟨r, e1, s⟩ := laws_szHeadS.ev x.hz x.heads (fitH_of g.1) a h0 h1
  rcases s with rfl | ⟨s1, s2, ok⟩
  · refine ⟨-1, ev_step ?_, .inl rfl⟩
    simp only [laws_szProof.f, laws_szProof.b]
    exact Ev.bind e1 (ev_pos (by omega) (ev_some rfl))
  obtain ⟨r2, e2, s⟩ := laws_szQc.ev x.q (QcV.fit_of g.2) r s1 (by omega)
  rcases s with rfl | ⟨t1, t2, ok2⟩
  · refine ⟨-1, ev_step ?_, .inl rfl⟩
    simp only [laws_szProof.f, laws_szProof.b]
    exact Ev.bind e1 (ev_neg (by omega) (Ev.bind e2 (ev_pos (by omega) (ev_some rfl))))
  · refine ⟨r2, ev_step ?_, .inr ⟨t1, by omega, ok, ok2⟩⟩
    simp only [laws_szProof.f, laws_szProof.b]
    exact Ev.bind e1 (ev_neg (by omega) (Ev.bind e2 (ev_neg (by omega) (ev_some rfl))))
theorem laws_toProof.ev (x : Pf) (ok : FewH x.heads) (ok2 : x.q.few) : Ev (fun k => laws_toProof.f k x.hz (x.heads.map Head.t) x.q.v x.q.h x.q.bz x.q.blk x.q.mz x.q.bits x.q.tz (x.q.tags.map By.t)) (false, (x.heads.map Head.cp).map Head.t, x.q.v, x.q.h, false, x.q.blk, false, x.q.bits, false, (x.q.tags.map By.cp).map By.t) := by
  refine ev_step ?_
  simp only [laws_toProof.f, laws_toProof.b]
  exact Ev.bind (laws_toHeadS.ev _ _ ok) (Ev.bind (laws_toQc.ev _ ok2) (ev_some rfl))
def Pf.cp' (x : Pf) : Pf := ⟨false, x.heads.map Head.cp, x.q.cp⟩
theorem laws_eqProof.ev (x : Pf) (ok : FewH x.heads) (ok2 : x.q.few) : Ev (fun k => laws_eqProof.f k x.hz (x.heads.map Head.t) x.q.v x.q.h x.q.bz x.q.blk x.q.mz x.q.bits x.q.tz (x.q.tags.map By.t) x.hz (x.heads.map Head.t) x.q.v x.q.h x.q.bz x.q.blk x.q.mz x.q.bits x.q.tz (x.q.tags.map By.t)) true := by
  refine ev_step ?_
  simp only [laws_eqProof.f, laws_eqProof.b]
  exact Ev.bind (laws_eqHeadS.ev _ _ _ ok) (ev_neg (by simp) (Ev.bind (laws_eqQc.ev x.q ok2) (ev_neg (by simp) (ev_some rfl))))
end Go.Proofs.YtjffolalgcmhaaaGreatDoorG
namespace Go.Proofs.YtjffolalgcmhaaaGreatDoorG
open Go Go.Proofs.YtjffolalgcmhaaaGreatDoorRv Go.RowKit
set_option linter.unusedVariables false
set_option linter.unusedSimpArgs false

theorem comma_sz : (⟨#[44]⟩ : ByteArray).size = 1 := rfl
theorem nil_sz : (⟨#[]⟩ : ByteArray).size = 0 := rfl
def tailA (by_ : ByteArray) : List ByteArray → ByteArray
  | [] => ⟨#[]⟩
  | x :: r => by_ ++ x ++ tailA by_ r
def joinA (by_ : ByteArray) : List ByteArray → ByteArray
  | [] => ⟨#[]⟩
  | x :: r => x ++ tailA by_ r
theorem tailA_sz {by_ : ByteArray} {P : Nat} : ∀ {l : List ByteArray}, (∀ x ∈ l, x.size ≤ P) → (tailA by_ l).size ≤ l.length * (by_.size + P)
  | [], _ => by rw [tailA, lit_sz]; simp
  | x :: r, h => by
    have h1 := h x (by simp)
    have h2 := tailA_sz (by_ := by_) (l := r) fun y hy => h y (by simp [hy])
    unfold tailA
    simp only [ByteArray.size_append, List.length_cons, Nat.add_mul, Nat.one_mul]
    omega
theorem joinA_sz {by_ : ByteArray} {P : Nat} {l : List ByteArray} (h : ∀ x ∈ l, x.size ≤ P) : (joinA by_ l).size ≤ l.length * (by_.size + P) := by
  cases l with
  | nil => rw [joinA, lit_sz]; simp
  | cons x r =>
    have h1 := h x (by simp)
    have h2 := tailA_sz (by_ := by_) (l := r) fun y hy => h y (by simp [hy])
    unfold joinA
    simp only [ByteArray.size_append, List.length_cons, Nat.add_mul, Nat.one_mul]
    omega
theorem arr_ext {a b : ByteArray} (h : a.data.toList = b.data.toList) : a = b := by
  cases a
  cases b
  simpa using h
theorem data_app (a b : ByteArray) : (a ++ b).data.toList = a.data.toList ++ b.data.toList := by
  cases a
  cases b
  rw [ByteArray.mk_append_mk]
  first | done | simp
theorem tailA_data (by_ : ByteArray) : ∀ l : List ByteArray, (tailA by_ l).data.toList = Lib.joinTail by_.data.toList (l.map (·.data.toList))
  | [] => by simp [tailA, Lib.joinTail]
  | x :: r => by
    have ih := tailA_data by_ r
    unfold tailA
    rw [data_app, data_app, ih]
    simp [Lib.joinTail]
theorem strs_map (l : List ByteArray) : strsOf (l.map T.str) = l := by simp [strsOf, T.toStr, Function.comp_def]
theorem joinB_eq (by_ : ByteArray) (l : List ByteArray) : joinB (l.map T.str) by_ = joinA by_ l := by
  unfold joinB
  rw [strs_map]
  refine arr_ext ?_
  cases l with
  | nil => simp [joinA, Lib.join_nil]
  | cons x r =>
    unfold joinA
    rw [data_app, tailA_data, List.map_cons, Lib.join_cons]
theorem strings_Join.ev (z : Bool) (l : List ByteArray) (by_ : ByteArray) {P : Nat} (h : ∀ x ∈ l, x.size ≤ P) (hl : l.length ≤ 140737488355328) (hs : l.length * (by_.size + P) ≤ 140737488355328) : Ev (fun k => strings_Join.f k z (l.map T.str) by_) (joinA by_ l) := by
  simp only [strings_Join.f]
  refine ev_pos ?_ (ev_some (joinB_eq by_ l))
  unfold joinOk
  have := joinA_sz (by_ := by_) h
  rw [joinB_eq]
  simp only [Bool.and_eq_true, decide_eq_true_eq, List.length_map]
  exact ⟨⟨by simp [isStr], hl⟩, by omega⟩
theorem strA_at {l : List ByteArray} {i : Nat} (h : i < l.length) : ((((l.map T.str).getD i .bad).cells.getD 0 .bad)).toStr = l[i] := by
  simp [List.getD_eq_getElem?_getD, h, T.cells, T.toStr]
theorem spec_l29Join.ev0 (by_ : ByteArray) (z : Bool) (l : List ByteArray) (hl : l.length ≤ 140737488355328) : ∀ (d n : Nat) (s : ByteArray), 1 ≤ n → n + d = l.length → s.size + (tailA by_ (l.drop n)).size ≤ 140737488355328 → Ev (fun k => spec_l29Join.l0 k by_ s z (l.map T.str) (l.length : Int) (n : Int)) (s ++ tailA by_ (l.drop n)) := by
  intro d
  induction d with
  | zero =>
    intro n s h1 hn hs
    refine ev_step ?_
    simp only [spec_l29Join.l0, spec_l29Join.l0b]
    refine ev_neg (by omega) (ev_some ?_)
    rw [List.drop_of_length_le (by omega), tailA, app_nil]
  | succ d ih =>
    intro n s h1 hn hs
    have hlt : n < l.length := by omega
    rw [List.drop_eq_getElem_cons hlt, tailA] at hs ⊢
    simp only [ByteArray.size_append] at hs
    have i2 := ih (n + 1) (s ++ by_ ++ l[n]) (by omega) (by omega) (by simp only [ByteArray.size_append]; omega)
    refine ev_step ?_
    simp only [spec_l29Join.l0, spec_l29Join.l0b, List.length_map, Int.toNat_natCast, strA_at hlt, w64s (n := n) (by omega)]
    refine ev_pos (by omega) (ev_pos (by omega) (ev_pos (by omega) (ev_pos (by omega) (ev_pos (by omega) (ev_pos (by simp only [ByteArray.size_append]; omega) (ev_to i2 ?_))))))
    simp only [ByteArray.append_assoc]
theorem spec_l29Join.ev (z : Bool) (l : List ByteArray) (by_ : ByteArray) {P : Nat} (h : ∀ x ∈ l, x.size ≤ P) (hl : l.length ≤ 140737488355328) (hs : l.length * (by_.size + P) ≤ 140737488355328) : Ev (fun k => spec_l29Join.f k z (l.map T.str) by_) (joinA by_ l) := by
  have hj := joinA_sz (by_ := by_) h
  refine ev_step ?_
  simp only [spec_l29Join.f, spec_l29Join.b, List.length_map]
  cases l with
  | nil =>
    refine ev_step ?_
    simp only [spec_l29Join.l0, spec_l29Join.l0b, List.length_nil]
    exact ev_neg (by omega) (ev_some rfl)
  | cons x r =>
    unfold joinA at hj ⊢
    simp only [ByteArray.size_append] at hj
    have i2 := spec_l29Join.ev0 by_ z (x :: r) hl r.length 1 x (by omega) (by simp; omega) (by simp only [List.drop_succ_cons, List.drop_zero]; omega)
    refine ev_step ?_
    have e : ((((List.map T.str (x :: r)).getD (0 : Int).toNat T.bad).cells.getD 0 T.bad)).toStr = x := rfl
    have e2 : wrap64 ((0 : Int) + 1) = ((1 : Nat) : Int) := by unfold wrap64; omega
    simp only [spec_l29Join.l0, spec_l29Join.l0b, List.length_map, List.length_cons, e, e2]
    refine ev_pos (by omega) (ev_pos (by omega) (ev_pos (by omega) (ev_neg (by omega) (ev_pos (by rw [lit_sz]; simp only [List.length_nil]; omega) (ev_to ?_ rfl)))))
    rw [nil_app]
    simpa using i2
theorem joinA_ne {by_ : ByteArray} {l : List ByteArray} (h : ∀ x ∈ l, x ≠ (⟨#[]⟩ : ByteArray)) : joinA by_ l = (⟨#[]⟩ : ByteArray) ↔ l = [] := by
  cases l with
  | nil => simp [joinA]
  | cons x r =>
    simp only [reduceCtorEq, iff_false]
    intro e
    refine h x (by simp) ?_
    have := congrArg ByteArray.size e
    rw [joinA, ByteArray.size_append, nil_sz] at this
    have hx : x.size = 0 := by omega
    cases x
    simp only [ByteArray.size] at hx
    rw [Array.size_eq_zero_iff] at hx
    rw [hx]
def listT (l : List ByteArray) : ByteArray := if l = [] then (⟨#[45]⟩ : ByteArray) else joinA (⟨#[44]⟩ : ByteArray) l
theorem listT_sz {P : Nat} {l : List ByteArray} (h : ∀ x ∈ l, x.size ≤ P) : (listT l).size ≤ l.length * (1 + P) + 1 := by
  unfold listT
  split
  · rw [lit_sz]; simp
  · have := joinA_sz (by_ := (⟨#[44]⟩ : ByteArray)) h
    rw [comma_sz] at this
    omega
theorem impl_orDash.ev (z : Bool) (l : List ByteArray) {P : Nat} (h : ∀ x ∈ l, x.size ≤ P) (hl : l.length ≤ 140737488355328) (hs : l.length * (1 + P) ≤ 140737488355328) : Ev (fun k => impl_orDash.f k z (l.map T.str)) (listT l) := by
  refine ev_step ?_
  simp only [impl_orDash.f, impl_orDash.b, List.length_map]
  unfold listT
  refine ev_ite (fun q => ev_some ?_) (fun q => Ev.bind (strings_Join.ev z l _ h hl (by rw [comma_sz]; exact hs)) (ev_some ?_))
  · rw [if_pos (List.length_eq_zero_iff.1 (by omega))]
  · rw [if_neg fun e => q (by rw [e]; rfl)]


def entT (e : En) : ByteArray := numT e.who ++ (⟨#[58]⟩ : ByteArray) ++ numT e.high
theorem entT_sz (e : En) : (entT e).size ≤ 41 := by
  have := numT_sz e.who
  have := numT_sz e.high
  unfold entT
  simp only [ByteArray.size_append, lit_sz, List.length_cons, List.length_nil]
  omega
def tcT (v : Int) (l : List En) : ByteArray := (⟨#[116, 99, 32]⟩ : ByteArray) ++ numT v ++ (⟨#[32]⟩ : ByteArray) ++ listT (l.map entT)
theorem ents_sz (l : List En) : ∀ x ∈ l.map entT, x.size ≤ 41 := fun x hx => by
  obtain ⟨e, _, rfl⟩ := List.mem_map.1 hx
  exact entT_sz e
theorem map_app {α : Type} (f : α → ByteArray) (l : List α) (n : Nat) (h : n < l.length) : ((l.take n).map f).map T.str ++ [T.str (f l[n])] = ((l.take (n + 1)).map f).map T.str := by
  rw [List.take_succ_eq_append_getElem h, List.map_append, List.map_append]
  rfl
theorem impl_TcText.ev0 (v : Int) (z y : Bool) (l : List En) (hl : l.length ≤ 1048576) : ∀ (d n : Nat), n + d = l.length → Ev (fun k => impl_TcText.l0 k (((l.take n).map entT).map T.str) z (l.map En.t) (l.length : Int) (n : Int) v y (l.map En.t)) (tcT v l) := by
  intro d
  induction d with
  | zero =>
    intro n hn
    have h1 := numT_sz v
    have h2 := listT_sz (ents_sz l)
    rw [List.length_map] at h2
    refine ev_step ?_
    simp only [impl_TcText.l0, impl_TcText.l0b]
    rw [List.take_of_length_le (by omega)]
    refine ev_neg (by omega) (Ev.bind (impl_NumText.ev v) (ev_pos ?_ (ev_pos ?_ (Ev.bind (impl_orDash.ev false (l.map entT) (ents_sz l) (by simp; omega) (by simp; omega)) (ev_pos ?_ (ev_some rfl)))))) <;> (simp only [ByteArray.size_append, lit_sz, List.length_cons, List.length_nil]; omega)
  | succ d ih =>
    intro n hn
    have hlt : n < l.length := by omega
    have h1 := numT_sz l[n].who
    have h2 := numT_sz l[n].high
    have i2 := ih (n + 1) (by omega)
    rw [← map_app entT l n hlt] at i2
    have hln : (((l.take n).map entT).map T.str).length = n := by simp; omega
    refine ev_step ?_
    simp only [impl_TcText.l0, impl_TcText.l0b, List.length_map, Int.toNat_natCast, en_at hlt, En.c0, En.c1, succ_nat n (by omega)]
    refine ev_pos (by omega) (ev_pos (by omega) (ev_pos (by omega) (Ev.bind (impl_NumText.ev _) (ev_pos ?_ (Ev.bind (impl_NumText.ev _) (ev_pos ?_ (ev_pos ?_ i2))))))) <;> first | (simp only [ByteArray.size_append, lit_sz, List.length_cons, List.length_nil]; omega) | (simp; omega)
theorem impl_TcText.ev (v : Int) (z : Bool) (l : List En) (hl : l.length ≤ 1048576) : Ev (fun k => impl_TcText.f k v z (l.map En.t)) (tcT v l) := by
  refine ev_step ?_
  simp only [impl_TcText.f, impl_TcText.b, List.length_map]
  exact impl_TcText.ev0 v z z l hl l.length 0 (by omega)
theorem spec_TcText.ev0 (v : Int) (z y : Bool) (l : List En) (hl : l.length ≤ 1048576) : ∀ (d n : Nat), n + d = l.length → Ev (fun k => spec_TcText.l0 k (((l.take n).map entT).map T.str) z (l.map En.t) (l.length : Int) (n : Int) v y (l.map En.t)) (tcT v l) := by
  intro d
  induction d with
  | zero =>
    intro n hn
    have h1 := numT_sz v
    have h2 := joinA_sz (by_ := (⟨#[44]⟩ : ByteArray)) (ents_sz l)
    rw [List.length_map, comma_sz] at h2
    have hln : ((l.map entT).map T.str).length = l.length := by simp
    refine ev_step ?_
    simp only [spec_TcText.l0, spec_TcText.l0b]
    rw [List.take_of_length_le (by omega)]
    refine ev_neg (by omega) (ev_ite (fun q => ?_) (fun q => ?_))
    · have : l = [] := List.length_eq_zero_iff.1 (by omega)
      subst this
      refine Ev.bind (spec_NumText.ev v) (ev_pos ?_ (ev_pos ?_ (ev_some ?_)))
      · simp only [ByteArray.size_append, lit_sz, List.length_cons, List.length_nil]; omega
      · simp only [ByteArray.size_append, lit_sz, List.length_cons, List.length_nil]; omega
      · unfold tcT
        show _ = _ ++ (⟨#[45]⟩ : ByteArray)
        rw [ByteArray.append_assoc (b := (⟨#[32]⟩ : ByteArray)), ByteArray.mk_append_mk]
        rfl
    · refine Ev.bind (spec_NumText.ev v) (ev_pos ?_ (ev_pos ?_ (Ev.bind (spec_l29Join.ev false (l.map entT) _ (ents_sz l) (by simp; omega) (by rw [comma_sz]; simp; omega)) (ev_pos ?_ (ev_some ?_)))))
      · simp only [ByteArray.size_append, lit_sz, List.length_cons, List.length_nil]; omega
      · simp only [ByteArray.size_append, lit_sz, List.length_cons, List.length_nil]; omega
      · simp only [ByteArray.size_append, lit_sz, List.length_cons, List.length_nil]; omega
      · unfold tcT listT
        rw [if_neg fun e => q (by rw [e]; rfl)]
  | succ d ih =>
    intro n hn
    have hlt : n < l.length := by omega
    have h1 := numT_sz l[n].who
    have h2 := numT_sz l[n].high
    have i2 := ih (n + 1) (by omega)
    rw [← map_app entT l n hlt] at i2
    refine ev_step ?_
    simp only [spec_TcText.l0, spec_TcText.l0b, List.length_map, Int.toNat_natCast, en_at hlt, En.c0, En.c1, succ_nat n (by omega)]
    refine ev_pos (by omega) (ev_pos (by omega) (ev_pos (by omega) (Ev.bind (spec_NumText.ev _) (ev_pos ?_ (Ev.bind (spec_NumText.ev _) (ev_pos ?_ (ev_pos ?_ i2))))))) <;> first | (simp only [ByteArray.size_append, lit_sz, List.length_cons, List.length_nil]; omega) | (simp; omega)
theorem spec_TcText.ev (v : Int) (z : Bool) (l : List En) (hl : l.length ≤ 1048576) : Ev (fun k => spec_TcText.f k v z (l.map En.t)) (tcT v l) := by
  refine ev_step ?_
  simp only [spec_TcText.f, spec_TcText.b, List.length_map]
  exact spec_TcText.ev0 v z z l hl l.length 0 (by omega)

def bitsT (b : List Int) : List ByteArray := (bitsList b).map numT
theorem bitsT_sz (b : List Int) : ∀ x ∈ bitsT b, x.size ≤ 20 := fun x hx => by
  obtain ⟨e, _, rfl⟩ := List.mem_map.1 hx
  exact numT_sz e
theorem bitsT_length (b : List Int) : (bitsT b).length ≤ 8 * b.length := by
  rw [bitsT, List.length_map]
  exact bitsList_length b
theorem numT_ne {n : Int} (h : isNum n = true) : numT n ≠ (⟨#[]⟩ : ByteArray) := fun e => by
  have h' := isNum_iff.1 h
  unfold numT at e
  rw [if_pos h, itoa_pos h'.1] at e
  have := congrArg (fun a : ByteArray => a.data.toList) e
  simp only [str] at this
  exact digits_pos _ (by simpa using this)
def qcT (q : QcV) : ByteArray := (⟨#[113, 99, 32]⟩ : ByteArray) ++ placeT q.v q.h ++ (⟨#[32]⟩ : ByteArray) ++ shortT q.blk ++ (⟨#[32]⟩ : ByteArray) ++ listT (bitsT q.bits)
theorem bitsT_app (b : List Int) (n : Nat) (h : n < (bitsList b).length) : (((bitsList b).take n).map numT).map T.str ++ [T.str (numT ((bitsList b)[n]))] = (((bitsList b).take (n + 1)).map numT).map T.str := map_app numT (bitsList b) n h
theorem impl_QcText.ev0 (q : QcV) (h1 : niceB q.blk) (h2 : q.bits.length ≤ 1048576) (z : Bool) : ∀ (d n : Nat), n + d = (bitsList q.bits).length → Ev (fun k => impl_QcText.l0 k ((((bitsList q.bits).take n).map numT).map T.str) z (bitsList q.bits) ((bitsList q.bits).length : Int) (n : Int) q.v q.h q.bz q.blk q.mz q.bits q.tz (q.tags.map By.t)) (qcT q) := by
  have hb := bitsList_length q.bits
  intro d
  induction d with
  | zero =>
    intro n hn
    have a1 := placeT_sz q.v q.h
    have a2 := shortT_sz q.blk
    have a3 := listT_sz (bitsT_sz q.bits)
    have a4 := bitsT_length q.bits
    refine ev_step ?_
    simp only [impl_QcText.l0, impl_QcText.l0b]
    rw [List.take_of_length_le (by omega)]
    refine ev_neg (by omega) (Ev.bind (impl_place.ev _ _) (ev_pos ?_ (ev_pos ?_ (Ev.bind (impl_Short.ev _ _ h1) (ev_pos ?_ (ev_pos ?_ (Ev.bind (impl_orDash.ev false (bitsT q.bits) (bitsT_sz _) (by omega) (by omega)) (ev_pos ?_ (ev_some rfl))))))))) <;> (simp only [ByteArray.size_append, lit_sz, List.length_cons, List.length_nil]; omega)
  | succ d ih =>
    intro n hn
    have hlt : n < (bitsList q.bits).length := by omega
    have i2 := ih (n + 1) (by omega)
    rw [← bitsT_app _ n hlt] at i2
    refine ev_step ?_
    simp only [impl_QcText.l0, impl_QcText.l0b, rd_nat hlt, succ_nat n (by omega)]
    exact ev_pos (by omega) (ev_pos (by omega) (ev_pos (by omega) (Ev.bind (impl_NumText.ev _) (ev_pos (by simp; omega) i2))))
theorem impl_QcText.ev (q : QcV) (h1 : niceB q.blk) (h2 : niceB q.bits) : Ev (fun k => impl_QcText.f k q.v q.h q.bz q.blk q.mz q.bits q.tz (q.tags.map By.t)) (qcT q) := by
  refine ev_step ?_
  simp only [impl_QcText.f, impl_QcText.b]
  exact Ev.bind (impl_BitsList.ev _ _ h2) (impl_QcText.ev0 q h1 h2.1 _ _ 0 (Nat.zero_add _))
theorem dash_list {b : List Int} (hb : b.length ≤ 1048576) : dashT (joinA (⟨#[44]⟩ : ByteArray) (bitsT b)) = listT (bitsT b) := by
  have hne : ∀ x ∈ bitsT b, x ≠ (⟨#[]⟩ : ByteArray) := fun x hx => by
    obtain ⟨e, he, rfl⟩ := List.mem_map.1 hx
    obtain ⟨n, rfl, hn, _⟩ := bitsList_bd he
    exact numT_ne (isNum_iff.2 ⟨by omega, by omega⟩)
  unfold dashT listT
  by_cases c : bitsT b = []
  · rw [if_pos c, if_pos ((joinA_ne hne).2 c)]
  · rw [if_neg c, if_neg fun e => c ((joinA_ne hne).1 e)]
theorem spec_QcText.ev0 (q : QcV) (h1 : niceB q.blk) (h2 : q.bits.length ≤ 1048576) (z : Bool) : ∀ (d n : Nat), n + d = (bitsList q.bits).length → Ev (fun k => spec_QcText.l0 k ((((bitsList q.bits).take n).map numT).map T.str) z (bitsList q.bits) ((bitsList q.bits).length : Int) (n : Int) q.v q.h q.bz q.blk q.mz q.bits q.tz (q.tags.map By.t)) (qcT q) := by
  have hb := bitsList_length q.bits
  intro d
  induction d with
  | zero =>
    intro n hn
    have a0 := numT_sz q.v
    have a1 := numT_sz q.h
    have a2 := shortT_sz q.blk
    have a3 := listT_sz (bitsT_sz q.bits)
    have a4 := bitsT_length q.bits
    have D := spec_l29Or.ev (joinA (⟨#[44]⟩ : ByteArray) (bitsT q.bits))
    rw [dash_list h2] at D
    refine ev_step ?_
    simp only [spec_QcText.l0, spec_QcText.l0b]
    rw [List.take_of_length_le (by omega)]
    refine ev_neg (by omega) (Ev.bind (spec_NumText.ev _) (ev_pos ?_ (ev_pos ?_ (Ev.bind (spec_NumText.ev _) (ev_pos ?_ (ev_pos ?_ (Ev.bind (spec_Short.ev _ _ h1) (ev_pos ?_ (ev_pos ?_ (Ev.bind (spec_l29Join.ev false (bitsT q.bits) _ (bitsT_sz _) (by omega) (by rw [comma_sz]; simp; omega)) (Ev.bind D (ev_pos ?_ (ev_some (by unfold qcT; simp only [placeT, ByteArray.append_assoc])))))))))))))) <;> (simp only [ByteArray.size_append, lit_sz, List.length_cons, List.length_nil]; omega)
  | succ d ih =>
    intro n hn
    have hlt : n < (bitsList q.bits).length := by omega
    have i2 := ih (n + 1) (by omega)
    rw [← bitsT_app _ n hlt] at i2
    refine ev_step ?_
    simp only [spec_QcText.l0, spec_QcText.l0b, rd_nat hlt, succ_nat n (by omega)]
    exact ev_pos (by omega) (ev_pos (by omega) (ev_pos (by omega) (Ev.bind (spec_NumText.ev _) (ev_pos (by simp; omega) i2))))
theorem spec_QcText.ev (q : QcV) (h1 : niceB q.blk) (h2 : niceB q.bits) : Ev (fun k => spec_QcText.f k q.v q.h q.bz q.blk q.mz q.bits q.tz (q.tags.map By.t)) (qcT q) := by
  refine ev_step ?_
  simp only [spec_QcText.f, spec_QcText.b]
  exact Ev.bind (spec_BitsList.ev _ _ h2) (spec_QcText.ev0 q h1 h2.1 _ _ 0 (Nat.zero_add _))

end Go.Proofs.YtjffolalgcmhaaaGreatDoorG
namespace Go.Proofs.YtjffolalgcmhaaaGreatDoorG
open Go Go.Proofs.YtjffolalgcmhaaaGreatDoorRv Go.RowKit
set_option linter.unusedVariables false
set_option linter.unusedSimpArgs false

structure Mg where
  k : Int
  vt : Vt
  qc : QcV
  hd : Head
  bk : Blk
  tc : TcV
  pf : Pf
  ic : Inc
structure Mg.good (x : Mg) : Prop where
  k : goodI x.k
  vt : Vt.good x.vt
  qc : QcV.good x.qc
  hd : Head.good x.hd
  bk : Blk.good x.bk
  tc : TcV.good x.tc
  pf : Pf.good x.pf
  ic : Inc.good x.ic
structure Mg.few (x : Mg) : Prop where
  vt : okB x.vt.blk ∧ okB x.vt.tag
  qc : x.qc.few
  hd : x.hd.few
  bk : x.bk.hd.few ∧ FewB x.bk.txs
  tc : FewE x.tc.ents
  pf : FewH x.pf.heads ∧ x.pf.q.few
  ic : okB x.ic.tx ∧ FewB x.ic.path
def Mg.cp (x : Mg) : Mg := ⟨x.k, x.vt.cp, x.qc.cp, x.hd.cp, x.bk.cp, ⟨x.tc.v, false, x.tc.ents.map En.cp⟩, x.pf.cp', x.ic.cp⟩
theorem Mg.few_cp {x : Mg} (w : x.few) : x.cp.few := ⟨w.vt, QcV.few_cp w.qc, Head.few_cp w.hd, ⟨Head.few_cp w.bk.1, fewB_cp' w.bk.2⟩, fewE_cp w.tc, ⟨fewH_cp w.pf.1, QcV.few_cp w.pf.2⟩, ⟨w.ic.1, fewB_cp' w.ic.2⟩⟩
structure Mg.byt (x : Mg) : Prop where
  vt : niceB x.vt.blk
  qc1 : niceB x.qc.blk
  qc2 : niceB x.qc.bits
  hd : niceB x.hd.par ∧ niceB x.hd.root
  bk : niceB x.bk.hd.par ∧ niceB x.bk.hd.root
  tc : x.tc.ents.length ≤ 1048576
  pf : x.pf.heads.length ≤ 1048576
  ic : niceB x.ic.tx
theorem Mg.byt_cp {x : Mg} (g : x.good) (w : x.few) : x.cp.byt :=
  ⟨niceB_of g.vt.2.2.1 w.vt.1, ⟨w.qc.1, (QcV.byt_of g.qc).1⟩, ⟨w.qc.2.1, (QcV.byt_of g.qc).2.1⟩, head_nicy (x := x.hd) w.hd (Head.byt_of g.hd), head_nicy (x := x.bk.hd) w.bk.1 (Head.byt_of g.bk.1), by simpa [Mg.cp] using w.tc.1, by simpa [Mg.cp, Pf.cp'] using w.pf.1.1, niceB_of g.ic.2.2.2.1 w.ic.1⟩
def msgT (x : Mg) : ByteArray :=
  if x.k = 1 then voteT x.vt.v x.vt.h x.vt.blk x.vt.who else if x.k = 2 then qcT x.qc else if x.k = 3 then headT x.hd else if x.k = 4 then blockT x.bk else if x.k = 5 then tcT x.tc.v x.tc.ents else if x.k = 6 then (⟨#[112, 114, 111, 111, 102]⟩ : ByteArray) ++ headsT x.pf.heads else if x.k = 7 then inclT x.ic else ⟨#[]⟩
theorem impl_MsgText.ev (x : Mg) (b : x.byt) : Ev (fun k => impl_MsgText.f k x.k x.vt.v x.vt.h x.vt.bz x.vt.blk x.vt.who x.vt.tz x.vt.tag x.qc.v x.qc.h x.qc.bz x.qc.blk x.qc.mz x.qc.bits x.qc.tz (x.qc.tags.map By.t) x.hd.v x.hd.h x.hd.p x.hd.az x.hd.par x.hd.rz x.hd.root x.hd.q.v x.hd.q.h x.hd.q.bz x.hd.q.blk x.hd.q.mz x.hd.q.bits x.hd.q.tz (x.hd.q.tags.map By.t) x.bk.hd.v x.bk.hd.h x.bk.hd.p x.bk.hd.az x.bk.hd.par x.bk.hd.rz x.bk.hd.root x.bk.hd.q.v x.bk.hd.q.h x.bk.hd.q.bz x.bk.hd.q.blk x.bk.hd.q.mz x.bk.hd.q.bits x.bk.hd.q.tz (x.bk.hd.q.tags.map By.t) x.bk.tz (x.bk.txs.map By.t) x.tc.v x.tc.ez (x.tc.ents.map En.t) x.pf.hz (x.pf.heads.map Head.t) x.pf.q.v x.pf.q.h x.pf.q.bz x.pf.q.blk x.pf.q.mz x.pf.q.bits x.pf.q.tz (x.pf.q.tags.map By.t) x.ic.h x.ic.n x.ic.at_ x.ic.xz x.ic.tx x.ic.pz (x.ic.path.map By.t)) (msgT x) := by
  refine ev_step ?_
  simp only [impl_MsgText.f, impl_MsgText.b]
  unfold msgT
  exact ev_ite (fun q1 => Ev.bind (impl_VoteText.ev _ _ _ _ b.vt _ _ _) (ev_some (by rw [if_pos q1]))) (fun q1 => ev_ite (fun q2 => Ev.bind (impl_QcText.ev x.qc b.qc1 b.qc2) (ev_some (by rw [if_neg q1, if_pos q2]))) (fun q2 => ev_ite (fun q3 => Ev.bind (impl_HeadText.ev x.hd b.hd.1 b.hd.2) (ev_some (by rw [if_neg q1, if_neg q2, if_pos q3]))) (fun q3 => ev_ite (fun q4 => Ev.bind (impl_BlockText.ev x.bk b.bk.1 b.bk.2) (ev_some (by rw [if_neg q1, if_neg q2, if_neg q3, if_pos q4]))) (fun q4 => ev_ite (fun q5 => Ev.bind (impl_TcText.ev x.tc.v x.tc.ez _ b.tc) (ev_some (by rw [if_neg q1, if_neg q2, if_neg q3, if_neg q4, if_pos q5]))) (fun q5 => ev_ite (fun q6 => Ev.bind (impl_ProofText.ev x.pf b.pf) (ev_some (by rw [if_neg q1, if_neg q2, if_neg q3, if_neg q4, if_neg q5, if_pos q6]))) (fun q6 => ev_ite (fun q7 => Ev.bind (impl_InclText.ev x.ic b.ic) (ev_some (by rw [if_neg q1, if_neg q2, if_neg q3, if_neg q4, if_neg q5, if_neg q6, if_pos q7]))) (fun q7 => ev_some (by rw [if_neg q1, if_neg q2, if_neg q3, if_neg q4, if_neg q5, if_neg q6, if_neg q7]))))))))
theorem spec_MsgText.ev (x : Mg) (b : x.byt) : Ev (fun k => spec_MsgText.f k x.k x.vt.v x.vt.h x.vt.bz x.vt.blk x.vt.who x.vt.tz x.vt.tag x.qc.v x.qc.h x.qc.bz x.qc.blk x.qc.mz x.qc.bits x.qc.tz (x.qc.tags.map By.t) x.hd.v x.hd.h x.hd.p x.hd.az x.hd.par x.hd.rz x.hd.root x.hd.q.v x.hd.q.h x.hd.q.bz x.hd.q.blk x.hd.q.mz x.hd.q.bits x.hd.q.tz (x.hd.q.tags.map By.t) x.bk.hd.v x.bk.hd.h x.bk.hd.p x.bk.hd.az x.bk.hd.par x.bk.hd.rz x.bk.hd.root x.bk.hd.q.v x.bk.hd.q.h x.bk.hd.q.bz x.bk.hd.q.blk x.bk.hd.q.mz x.bk.hd.q.bits x.bk.hd.q.tz (x.bk.hd.q.tags.map By.t) x.bk.tz (x.bk.txs.map By.t) x.tc.v x.tc.ez (x.tc.ents.map En.t) x.pf.hz (x.pf.heads.map Head.t) x.pf.q.v x.pf.q.h x.pf.q.bz x.pf.q.blk x.pf.q.mz x.pf.q.bits x.pf.q.tz (x.pf.q.tags.map By.t) x.ic.h x.ic.n x.ic.at_ x.ic.xz x.ic.tx x.ic.pz (x.ic.path.map By.t)) (msgT x) := by
  refine ev_step ?_
  simp only [spec_MsgText.f, spec_MsgText.b]
  unfold msgT
  exact ev_ite (fun q1 => Ev.bind (spec_VoteText.ev _ _ _ _ b.vt _ _ _) (ev_some (by rw [if_pos q1]))) (fun q1 => ev_ite (fun q2 => Ev.bind (spec_QcText.ev x.qc b.qc1 b.qc2) (ev_some (by rw [if_neg q1, if_pos q2]))) (fun q2 => ev_ite (fun q3 => Ev.bind (spec_HeadText.ev x.hd b.hd.1 b.hd.2) (ev_some (by rw [if_neg q1, if_neg q2, if_pos q3]))) (fun q3 => ev_ite (fun q4 => Ev.bind (spec_BlockText.ev x.bk b.bk.1 b.bk.2) (ev_some (by rw [if_neg q1, if_neg q2, if_neg q3, if_pos q4]))) (fun q4 => ev_ite (fun q5 => Ev.bind (spec_TcText.ev x.tc.v x.tc.ez _ b.tc) (ev_some (by rw [if_neg q1, if_neg q2, if_neg q3, if_neg q4, if_pos q5]))) (fun q5 => ev_ite (fun q6 => Ev.bind (spec_ProofText.ev x.pf b.pf) (ev_some (by rw [if_neg q1, if_neg q2, if_neg q3, if_neg q4, if_neg q5, if_pos q6]))) (fun q6 => ev_ite (fun q7 => Ev.bind (spec_InclText.ev x.ic b.ic) (ev_some (by rw [if_neg q1, if_neg q2, if_neg q3, if_neg q4, if_neg q5, if_neg q6, if_pos q7]))) (fun q7 => ev_some (by rw [if_neg q1, if_neg q2, if_neg q3, if_neg q4, if_neg q5, if_neg q6, if_neg q7]))))))))
theorem laws_szMsg.ev (x : Mg) (g : x.good) (a : Int) (h0 : 0 ≤ a) (h1 : a ≤ 1048576) : ∃ r, Ev (fun k => laws_szMsg.f k x.k x.vt.v x.vt.h x.vt.bz x.vt.blk x.vt.who x.vt.tz x.vt.tag x.qc.v x.qc.h x.qc.bz x.qc.blk x.qc.mz x.qc.bits x.qc.tz (x.qc.tags.map By.t) x.hd.v x.hd.h x.hd.p x.hd.az x.hd.par x.hd.rz x.hd.root x.hd.q.v x.hd.q.h x.hd.q.bz x.hd.q.blk x.hd.q.mz x.hd.q.bits x.hd.q.tz (x.hd.q.tags.map By.t) x.bk.hd.v x.bk.hd.h x.bk.hd.p x.bk.hd.az x.bk.hd.par x.bk.hd.rz x.bk.hd.root x.bk.hd.q.v x.bk.hd.q.h x.bk.hd.q.bz x.bk.hd.q.blk x.bk.hd.q.mz x.bk.hd.q.bits x.bk.hd.q.tz (x.bk.hd.q.tags.map By.t) x.bk.tz (x.bk.txs.map By.t) x.tc.v x.tc.ez (x.tc.ents.map En.t) x.pf.hz (x.pf.heads.map Head.t) x.pf.q.v x.pf.q.h x.pf.q.bz x.pf.q.blk x.pf.q.mz x.pf.q.bits x.pf.q.tz (x.pf.q.tags.map By.t) x.ic.h x.ic.n x.ic.at_ x.ic.xz x.ic.tx x.ic.pz (x.ic.path.map By.t) a) r ∧ SzR x.few a r := by
  obtain ⟨r0, e0, s⟩ := laws_szVote.ev x.vt.v x.vt.h x.vt.bz x.vt.blk g.vt.2.2.1.1 x.vt.who x.vt.tz x.vt.tag g.vt.2.2.2.2.1 a h0 (by omega)
  rcases s with rfl | ⟨l0, m0, w0⟩
  · refine ⟨-1, ev_step ?_, .inl rfl⟩
    simp only [laws_szMsg.f, laws_szMsg.b]
    exact Ev.bind e0 (ev_pos (by omega) (ev_some rfl))
  obtain ⟨r1, e1, s⟩ := laws_szQc.ev x.qc (QcV.fit_of g.qc) r0 l0 (by omega)
  rcases s with rfl | ⟨l1, m1, w1⟩
  · refine ⟨-1, ev_step ?_, .inl rfl⟩
    simp only [laws_szMsg.f, laws_szMsg.b]
    exact Ev.bind e0 (ev_neg (by omega) (Ev.bind e1 (ev_pos (by omega) (ev_some rfl))))
  obtain ⟨r2, e2, s⟩ := laws_szHead.ev x.hd (Head.fit_of g.hd) r1 l1 (by omega)
  rcases s with rfl | ⟨l2, m2, w2⟩
  · refine ⟨-1, ev_step ?_, .inl rfl⟩
    simp only [laws_szMsg.f, laws_szMsg.b]
    exact Ev.bind e0 (ev_neg (by omega) (Ev.bind e1 (ev_neg (by omega) (Ev.bind e2 (ev_pos (by omega) (ev_some rfl))))))
  obtain ⟨r3, e3, s⟩ := laws_szBlock.ev x.bk g.bk r2 l2 (by omega)
  rcases s with rfl | ⟨l3, m3, w3⟩
  · refine ⟨-1, ev_step ?_, .inl rfl⟩
    simp only [laws_szMsg.f, laws_szMsg.b]
    exact Ev.bind e0 (ev_neg (by omega) (Ev.bind e1 (ev_neg (by omega) (Ev.bind e2 (ev_neg (by omega) (Ev.bind e3 (ev_pos (by omega) (ev_some rfl))))))))
  obtain ⟨r4, e4, s⟩ := laws_szTc.ev x.tc.v x.tc.ez x.tc.ents (fitE_of g.tc.2) r3 l3 (by omega)
  rcases s with rfl | ⟨l4, m4, w4⟩
  · refine ⟨-1, ev_step ?_, .inl rfl⟩
    simp only [laws_szMsg.f, laws_szMsg.b]
    exact Ev.bind e0 (ev_neg (by omega) (Ev.bind e1 (ev_neg (by omega) (Ev.bind e2 (ev_neg (by omega) (Ev.bind e3 (ev_neg (by omega) (Ev.bind e4 (ev_pos (by omega) (ev_some rfl))))))))))
  obtain ⟨r5, e5, s⟩ := laws_szProof.ev x.pf g.pf r4 l4 (by omega)
  rcases s with rfl | ⟨l5, m5, w5⟩
  · refine ⟨-1, ev_step ?_, .inl rfl⟩
    simp only [laws_szMsg.f, laws_szMsg.b]
    exact Ev.bind e0 (ev_neg (by omega) (Ev.bind e1 (ev_neg (by omega) (Ev.bind e2 (ev_neg (by omega) (Ev.bind e3 (ev_neg (by omega) (Ev.bind e4 (ev_neg (by omega) (Ev.bind e5 (ev_pos (by omega) (ev_some rfl))))))))))))
  obtain ⟨r6, e6, s⟩ := laws_szIncl.ev x.ic g.ic r5 l5 (by omega)
  rcases s with rfl | ⟨l6, m6, w6⟩
  · refine ⟨-1, ev_step ?_, .inl rfl⟩
    simp only [laws_szMsg.f, laws_szMsg.b]
    exact Ev.bind e0 (ev_neg (by omega) (Ev.bind e1 (ev_neg (by omega) (Ev.bind e2 (ev_neg (by omega) (Ev.bind e3 (ev_neg (by omega) (Ev.bind e4 (ev_neg (by omega) (Ev.bind e5 (ev_neg (by omega) (Ev.bind e6 (ev_pos (by omega) (ev_some rfl))))))))))))))
  refine ⟨r6, ev_step ?_, .inr ⟨l6, by omega, ⟨w0, w1, w2, w3, w4, w5, w6⟩⟩⟩
  simp only [laws_szMsg.f, laws_szMsg.b]
  exact Ev.bind e0 (ev_neg (by omega) (Ev.bind e1 (ev_neg (by omega) (Ev.bind e2 (ev_neg (by omega) (Ev.bind e3 (ev_neg (by omega) (Ev.bind e4 (ev_neg (by omega) (Ev.bind e5 (ev_neg (by omega) (Ev.bind e6 (ev_neg (by omega) (ev_some rfl))))))))))))))
theorem laws_toMsg.ev (x : Mg) (w : x.few) : Ev (fun k => laws_toMsg.f k x.k x.vt.v x.vt.h x.vt.bz x.vt.blk x.vt.who x.vt.tz x.vt.tag x.qc.v x.qc.h x.qc.bz x.qc.blk x.qc.mz x.qc.bits x.qc.tz (x.qc.tags.map By.t) x.hd.v x.hd.h x.hd.p x.hd.az x.hd.par x.hd.rz x.hd.root x.hd.q.v x.hd.q.h x.hd.q.bz x.hd.q.blk x.hd.q.mz x.hd.q.bits x.hd.q.tz (x.hd.q.tags.map By.t) x.bk.hd.v x.bk.hd.h x.bk.hd.p x.bk.hd.az x.bk.hd.par x.bk.hd.rz x.bk.hd.root x.bk.hd.q.v x.bk.hd.q.h x.bk.hd.q.bz x.bk.hd.q.blk x.bk.hd.q.mz x.bk.hd.q.bits x.bk.hd.q.tz (x.bk.hd.q.tags.map By.t) x.bk.tz (x.bk.txs.map By.t) x.tc.v x.tc.ez (x.tc.ents.map En.t) x.pf.hz (x.pf.heads.map Head.t) x.pf.q.v x.pf.q.h x.pf.q.bz x.pf.q.blk x.pf.q.mz x.pf.q.bits x.pf.q.tz (x.pf.q.tags.map By.t) x.ic.h x.ic.n x.ic.at_ x.ic.xz x.ic.tx x.ic.pz (x.ic.path.map By.t)) (x.cp.k, x.cp.vt.v, x.cp.vt.h, x.cp.vt.bz, x.cp.vt.blk, x.cp.vt.who, x.cp.vt.tz, x.cp.vt.tag, x.cp.qc.v, x.cp.qc.h, x.cp.qc.bz, x.cp.qc.blk, x.cp.qc.mz, x.cp.qc.bits, x.cp.qc.tz, (x.cp.qc.tags.map By.t), x.cp.hd.v, x.cp.hd.h, x.cp.hd.p, x.cp.hd.az, x.cp.hd.par, x.cp.hd.rz, x.cp.hd.root, x.cp.hd.q.v, x.cp.hd.q.h, x.cp.hd.q.bz, x.cp.hd.q.blk, x.cp.hd.q.mz, x.cp.hd.q.bits, x.cp.hd.q.tz, (x.cp.hd.q.tags.map By.t), x.cp.bk.hd.v, x.cp.bk.hd.h, x.cp.bk.hd.p, x.cp.bk.hd.az, x.cp.bk.hd.par, x.cp.bk.hd.rz, x.cp.bk.hd.root, x.cp.bk.hd.q.v, x.cp.bk.hd.q.h, x.cp.bk.hd.q.bz, x.cp.bk.hd.q.blk, x.cp.bk.hd.q.mz, x.cp.bk.hd.q.bits, x.cp.bk.hd.q.tz, (x.cp.bk.hd.q.tags.map By.t), x.cp.bk.tz, (x.cp.bk.txs.map By.t), x.cp.tc.v, x.cp.tc.ez, (x.cp.tc.ents.map En.t), x.cp.pf.hz, (x.cp.pf.heads.map Head.t), x.cp.pf.q.v, x.cp.pf.q.h, x.cp.pf.q.bz, x.cp.pf.q.blk, x.cp.pf.q.mz, x.cp.pf.q.bits, x.cp.pf.q.tz, (x.cp.pf.q.tags.map By.t), x.cp.ic.h, x.cp.ic.n, x.cp.ic.at_, x.cp.ic.xz, x.cp.ic.tx, x.cp.ic.pz, (x.cp.ic.path.map By.t)) := by
  refine ev_step ?_
  simp only [laws_toMsg.f, laws_toMsg.b]
  exact Ev.bind (laws_toVote.ev x.vt.v x.vt.h x.vt.bz x.vt.blk w.vt.1 x.vt.who x.vt.tz x.vt.tag w.vt.2) (Ev.bind (laws_toQc.ev x.qc w.qc) (Ev.bind (laws_toHead.ev x.hd w.hd) (Ev.bind (laws_toBlock.ev x.bk w.bk.1 w.bk.2) (Ev.bind (laws_toTc.ev x.tc.v x.tc.ez x.tc.ents w.tc) (Ev.bind (laws_toProof.ev x.pf w.pf.1 w.pf.2) (Ev.bind (laws_toIncl.ev x.ic w.ic.1 w.ic.2) (ev_some rfl)))))))
theorem laws_eqMsg.ev (x : Mg) (w : x.few) : Ev (fun k => laws_eqMsg.f k x.k x.vt.v x.vt.h x.vt.bz x.vt.blk x.vt.who x.vt.tz x.vt.tag x.qc.v x.qc.h x.qc.bz x.qc.blk x.qc.mz x.qc.bits x.qc.tz (x.qc.tags.map By.t) x.hd.v x.hd.h x.hd.p x.hd.az x.hd.par x.hd.rz x.hd.root x.hd.q.v x.hd.q.h x.hd.q.bz x.hd.q.blk x.hd.q.mz x.hd.q.bits x.hd.q.tz (x.hd.q.tags.map By.t) x.bk.hd.v x.bk.hd.h x.bk.hd.p x.bk.hd.az x.bk.hd.par x.bk.hd.rz x.bk.hd.root x.bk.hd.q.v x.bk.hd.q.h x.bk.hd.q.bz x.bk.hd.q.blk x.bk.hd.q.mz x.bk.hd.q.bits x.bk.hd.q.tz (x.bk.hd.q.tags.map By.t) x.bk.tz (x.bk.txs.map By.t) x.tc.v x.tc.ez (x.tc.ents.map En.t) x.pf.hz (x.pf.heads.map Head.t) x.pf.q.v x.pf.q.h x.pf.q.bz x.pf.q.blk x.pf.q.mz x.pf.q.bits x.pf.q.tz (x.pf.q.tags.map By.t) x.ic.h x.ic.n x.ic.at_ x.ic.xz x.ic.tx x.ic.pz (x.ic.path.map By.t) x.k x.vt.v x.vt.h x.vt.bz x.vt.blk x.vt.who x.vt.tz x.vt.tag x.qc.v x.qc.h x.qc.bz x.qc.blk x.qc.mz x.qc.bits x.qc.tz (x.qc.tags.map By.t) x.hd.v x.hd.h x.hd.p x.hd.az x.hd.par x.hd.rz x.hd.root x.hd.q.v x.hd.q.h x.hd.q.bz x.hd.q.blk x.hd.q.mz x.hd.q.bits x.hd.q.tz (x.hd.q.tags.map By.t) x.bk.hd.v x.bk.hd.h x.bk.hd.p x.bk.hd.az x.bk.hd.par x.bk.hd.rz x.bk.hd.root x.bk.hd.q.v x.bk.hd.q.h x.bk.hd.q.bz x.bk.hd.q.blk x.bk.hd.q.mz x.bk.hd.q.bits x.bk.hd.q.tz (x.bk.hd.q.tags.map By.t) x.bk.tz (x.bk.txs.map By.t) x.tc.v x.tc.ez (x.tc.ents.map En.t) x.pf.hz (x.pf.heads.map Head.t) x.pf.q.v x.pf.q.h x.pf.q.bz x.pf.q.blk x.pf.q.mz x.pf.q.bits x.pf.q.tz (x.pf.q.tags.map By.t) x.ic.h x.ic.n x.ic.at_ x.ic.xz x.ic.tx x.ic.pz (x.ic.path.map By.t)) true := by
  refine ev_step ?_
  simp only [laws_eqMsg.f, laws_eqMsg.b]
  exact ev_neg (by simp) (Ev.bind (laws_eqVote.ev x.vt.v x.vt.h _ x.vt.blk w.vt.1 x.vt.who _ x.vt.tag w.vt.2 _ _) (ev_neg (by simp) (Ev.bind (laws_eqQc.ev x.qc w.qc) (ev_neg (by simp) (Ev.bind (laws_eqHead.ev x.hd w.hd) (ev_neg (by simp) (Ev.bind (laws_eqBlock.ev x.bk w.bk.1 w.bk.2) (ev_neg (by simp) (Ev.bind (laws_eqTc.ev x.tc.v _ _ x.tc.ents w.tc) (ev_neg (by simp) (Ev.bind (laws_eqProof.ev x.pf w.pf.1 w.pf.2) (ev_neg (by simp) (Ev.bind (laws_eqIncl.ev x.ic w.ic.1 w.ic.2) (ev_neg (by simp) (ev_some rfl)))))))))))))))
theorem laws_FnExactMsgText.top (x0 : Mg) (g0 : Mg.good x0) : Ev (fun k => laws_FnExactMsgText.f k x0.k x0.vt.v x0.vt.h x0.vt.bz x0.vt.blk x0.vt.who x0.vt.tz x0.vt.tag x0.qc.v x0.qc.h x0.qc.bz x0.qc.blk x0.qc.mz x0.qc.bits x0.qc.tz (x0.qc.tags.map By.t) x0.hd.v x0.hd.h x0.hd.p x0.hd.az x0.hd.par x0.hd.rz x0.hd.root x0.hd.q.v x0.hd.q.h x0.hd.q.bz x0.hd.q.blk x0.hd.q.mz x0.hd.q.bits x0.hd.q.tz (x0.hd.q.tags.map By.t) x0.bk.hd.v x0.bk.hd.h x0.bk.hd.p x0.bk.hd.az x0.bk.hd.par x0.bk.hd.rz x0.bk.hd.root x0.bk.hd.q.v x0.bk.hd.q.h x0.bk.hd.q.bz x0.bk.hd.q.blk x0.bk.hd.q.mz x0.bk.hd.q.bits x0.bk.hd.q.tz (x0.bk.hd.q.tags.map By.t) x0.bk.tz (x0.bk.txs.map By.t) x0.tc.v x0.tc.ez (x0.tc.ents.map En.t) x0.pf.hz (x0.pf.heads.map Head.t) x0.pf.q.v x0.pf.q.h x0.pf.q.bz x0.pf.q.blk x0.pf.q.mz x0.pf.q.bits x0.pf.q.tz (x0.pf.q.tags.map By.t) x0.ic.h x0.ic.n x0.ic.at_ x0.ic.xz x0.ic.tx x0.ic.pz (x0.ic.path.map By.t)) true := by
  refine ev_step ?_
  simp only [laws_FnExactMsgText.f, laws_FnExactMsgText.b]
  obtain ⟨r, e1, s⟩ := laws_szMsg.ev x0 g0 1048576 (by omega) (by omega)
  rcases s with rfl | ⟨s1, s2, w⟩
  · exact Ev.bind e1 (ev_pos (by omega) (ev_some rfl))
  have b := Mg.byt_cp g0 w
  have T := laws_toMsg.ev x0 w
  exact Ev.bind e1 (ev_neg (by omega) (Ev.bind T (Ev.bind (spec_MsgText.ev x0.cp b) (Ev.bind T (Ev.bind (impl_MsgText.ev x0.cp b) (ev_neg (by simp) (Ev.bind T (Ev.bind (laws_eqMsg.ev x0.cp (Mg.few_cp w)) (ev_neg (by simp) (ev_some rfl))))))))))
end Go.Proofs.YtjffolalgcmhaaaGreatDoorG
