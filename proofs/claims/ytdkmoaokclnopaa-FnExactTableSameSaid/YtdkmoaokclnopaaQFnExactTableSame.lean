/- What the printed functions of FnExactTableSame come to, in plain terms. No condition beside those that each lemma names. -/
import Derived.Test.YtdkmoaokclnopaaFFnExactTableSamex0
import Derived.Test.YtdkmoaokclnopaaFFnExactTableSamex1
import Derived.Test.YtdkmoaokclnopaaFFnExactTableSamex2
import Derived.Test.YtdkmoaokclnopaaFFnExactTableSamex3
import Derived.Test.YtdkmoaokclnopaaFFnExactTableSamex4
import Derived.Test.YtdkmoaokclnopaaBits
import Derived.Test.YtdkmoaokclnopaaEv
import Derived.Test.YtdkmoaokclnopaaRd
namespace Go.Proofs.Ytdkmoaokclnopaa.PFnExactTableSame
open Go.RowKit Go.Proofs.YtdkmoaokclnopaaW.PrintWords Go.Proofs.YtdkmoaokclnopaaW.PrintLast Go.Proofs.YtdkmoaokclnopaaR
set_option linter.unusedVariables false
set_option linter.unusedSimpArgs false

def fit87 (x : S87) : Prop := ((x).f1.length ≤ 9223372036854775807)
def ok87 (x : S87) : Prop := okB (x).f1
def nice87 (x : S87) : Prop := i64r (x).f0 ∧ niceB (x).f1
def nL87 (l : List S87) : Prop := l.length ≤ 1048576 ∧ ∀ y ∈ l, nice87 y
theorem nice87_ok {x : S87} (h : nice87 x) : ok87 x := by
  obtain ⟨n0, n1⟩ := h; exact (niceB_ok n1)

/-- A table that is valid, told of its rows. -/
def tableOk (l : List S87) : Bool := l.all (fun r => decide (1 ≤ r.f0 ∧ r.f0 ≤ 1099511627776) && decide (1 ≤ r.f1.length ∧ r.f1.length ≤ 64)) && decide (1 ≤ l.length ∧ l.length ≤ 10)
theorem tableOk_iff {l : List S87} : tableOk l = true ↔ (∀ r ∈ l, (1 ≤ r.f0 ∧ r.f0 ≤ 1099511627776) ∧ 1 ≤ r.f1.length ∧ r.f1.length ≤ 64) ∧ 1 ≤ l.length ∧ l.length ≤ 10 := by
  simp [tableOk]
/-- The sum of the weights. -/
def total : List S87 → Int
  | [] => 0
  | r :: t => r.f0 + total t
/-- The weight of those whose bit, from i on, is set. -/
def wsum (b : List Int) : Nat → List S87 → Int
  | _, [] => 0
  | i, r :: t => (if bitAt b i = true then r.f0 else 0) + wsum b (i + 1) t
def totalOf (l : List S87) : Int := if tableOk l = true then total l else 0
def weightOf (l : List S87) (b : List Int) : Int := if tableOk l = true ∧ bitsOk b (l.length : Int) = true then wsum b 0 l else 0
theorem total_bd {l : List S87} (h : ∀ r ∈ l, 1 ≤ r.f0 ∧ r.f0 ≤ 1099511627776) : 0 ≤ total l ∧ total l ≤ l.length * 1099511627776 := by
  induction l with
  | nil => simp [total]
  | cons r t ih =>
    have h0 := h r (by simp)
    have := ih (fun x hx => h x (by simp [hx]))
    simp only [total, List.length_cons]
    omega
theorem wsum_bd {b : List Int} {l : List S87} (h : ∀ r ∈ l, 1 ≤ r.f0 ∧ r.f0 ≤ 1099511627776) : ∀ i, 0 ≤ wsum b i l ∧ wsum b i l ≤ total l := by
  induction l with
  | nil => intro i; simp [wsum, total]
  | cons r t ih =>
    intro i
    have h0 := h r (by simp)
    have := ih (fun x hx => h x (by simp [hx])) (i + 1)
    simp only [total, wsum]
    split <;> omega
/-- The weights at the places of a list. -/
def isum (l : List S87) : List Nat → Int
  | [] => 0
  | i :: t => (l.getD i z87).f0 + isum l t
theorem isum_bits (b : List Int) (l : List S87) : ∀ (m i : Nat), (∀ j, l.length ≤ j → bitAt b j = false) → l.length ≤ i + m → isum l (bitsFrom b i m) = wsum b i (l.drop i)
  | 0, i, h, hm => by rw [List.drop_of_length_le (by omega)]; rfl
  | m + 1, i, h, hm => by
    have ih := isum_bits b l m (i + 1) h (by omega)
    by_cases c : i < l.length
    · rw [List.drop_eq_getElem_cons c]
      unfold bitsFrom wsum
      split
      · simp [isum, ih, c]
      · simp [ih]
    · have z := h i (by omega)
      unfold bitsFrom
      rw [List.drop_of_length_le (by omega)] at ih ⊢
      rw [if_neg (by rw [z]; simp), ih]
      rfl
def rowSame (a b : List S87) (i : Nat) : Bool := decide ((a.getD i z87).f0 = (b.getD i z87).f0) && sameB (a.getD i z87).f1 (b.getD i z87).f1
def tableSame (a b : List S87) : Bool := decide (a.length = b.length) && allFrom (rowSame a b) 0 a.length

def fit105 (x : S105) : Prop := ((x).f1.length ≤ 9223372036854775807)
def ok105 (x : S105) : Prop := okB (x).f1
def nice105 (x : S105) : Prop := i64r (x).f0 ∧ niceB (x).f1
def nL105 (l : List S105) : Prop := l.length ≤ 1048576 ∧ ∀ y ∈ l, nice105 y
theorem nice105_ok {x : S105} (h : nice105 x) : ok105 x := by
  obtain ⟨n0, n1⟩ := h; exact (niceB_ok n1)
def good105 (x : S105) : Prop := ((Lit.int .i64 (x).f0).wf = true ∧ ((x).f1.length ≤ 9223372036854775807 ∧ ∀ y ∈ (x).f1, (Lit.int .u8 y).wf = true))
theorem good105_fit {x : S105} (h : good105 x) : fit105 x := by
  obtain ⟨g0, g1⟩ := h; exact (g1.1)
theorem nice105_of {x : S105} (h : good105 x) (o : ok105 x) : nice105 x := by
  obtain ⟨g0, g1⟩ := h; have o1 := o; exact ⟨(wf64 g0), (niceB_of g1 o1)⟩
def cv105 (x : S105) : S87 := ⟨(x).f0, (x).f1⟩
theorem nice105_cv {x : S105} (h : nice105 x) : nice87 (cv105 x) := by
  obtain ⟨n0, n1⟩ := h; exact ⟨n0, n1⟩
theorem ok105_cv {x : S105} (h : ok105 x) : ok87 (cv105 x) := by
  have o1 := h; exact o1
theorem nL105_cv {l : List S105} (h : nL105 l) : nL87 (l.map cv105) := ⟨by simpa using h.1, fun y hy => by obtain ⟨x, hx, rfl⟩ := List.mem_map.1 hy; exact nice105_cv (h.2 x hx)⟩
theorem oL105_cv {l : List S105} (h : l.length ≤ 1048576 ∧ ∀ y ∈ l, ok105 y) : (l.map cv105).length ≤ 1048576 ∧ ∀ y ∈ l.map cv105, ok87 y := ⟨by simpa using h.1, fun y hy => by obtain ⟨x, hx, rfl⟩ := List.mem_map.1 hy; exact ok105_cv (h.2 x hx)⟩

theorem laws_szByteS.ev (l : List Int) (h : l.length ≤ 9223372036854775807) (a : Int) (h0 : 0 ≤ a) (h1 : a ≤ 1048576) : ∃ r, Ev (fun _ => laws_szByteS.f l a) r ∧ SzR (okB l) a r := by
  unfold laws_szByteS.f
  rw [w64 (by omega) (by omega)]
  by_cases c : (l.length : Int) ≤ a
  · exact ⟨a - l.length, ev_neg (by omega) (ev_some rfl), Or.inr ⟨by omega, by omega, by unfold okB; omega⟩⟩
  · exact ⟨-1, ev_pos (by omega) (ev_some rfl), Or.inl rfl⟩

theorem laws_szRow.ev (x0 : Int) (x1 : List Int) (h : (x1.length ≤ 9223372036854775807)) (a : Int) (h0 : 0 ≤ a) (h1 : a ≤ 1048576) : ∃ r, Ev (fun k => laws_szRow.f x0 x1 a) r ∧ SzR (okB x1) a r := by
  unfold laws_szRow.f
  have g0 := h
  obtain ⟨r0, e0, s0⟩ := laws_szByteS.ev x1 g0 a h0 h1
  rcases s0 with rfl | ⟨p0, q0, o0⟩
  · exact ⟨-1, Ev.bind e0 (ev_pos (by omega) (ev_some rfl)), Or.inl rfl⟩
  exact ⟨r0, Ev.bind e0 (ev_neg (by omega) (ev_some rfl)), Or.inr ⟨p0, by omega, o0⟩⟩

theorem laws_szRowS.ev0 (l : List S105) (hl : l.length ≤ 9223372036854775807) (hx : ∀ x ∈ l, fit105 x) : ∀ (d n : Nat) (a : Int), n + d = l.length → 0 ≤ a → a ≤ 1048576 → ∃ r, Ev (fun k => laws_szRowS.l0 k l a (n : Int)) r ∧ SzR (∀ x ∈ l.drop n, ok105 x) a r
  | 0, n, a, hn, h0, h1 => ⟨a, by
      refine ev_step ?_
      simp only [laws_szRowS.l0]
      exact ev_neg (by omega) (ev_some rfl), Or.inr ⟨h0, Int.le_refl _, by rw [List.drop_of_length_le (by omega)]; simp⟩⟩
  | d + 1, n, a, hn, h0, h1 => by
    have hlt : n < l.length := by omega
    have e : rd_T105 l (n : Int) = l[n] := getD_nat _ hlt
    obtain ⟨r1, e1, s1⟩ := laws_szRow.ev (l[n]).f0 (l[n]).f1 (hx _ (List.getElem_mem hlt)) a h0 h1
    rcases s1 with rfl | ⟨p1, q1, o1⟩
    · refine ⟨-1, ?_, Or.inl rfl⟩
      refine ev_step ?_
      simp only [laws_szRowS.l0]
      refine ev_pos (by omega) (ev_pos (by omega) ?_)
      rw [e]
      exact Ev.bind e1 (ev_pos (by omega) (ev_some rfl))
    · obtain ⟨r2, e2, s2⟩ := laws_szRowS.ev0 l hl hx d (n + 1) r1 (by omega) p1 (by omega)
      refine ⟨r2, ?_, ?_⟩
      · refine ev_step ?_
        simp only [laws_szRowS.l0]
        refine ev_pos (by omega) (ev_pos (by omega) ?_)
        rw [e]
        refine Ev.bind e1 (ev_neg (by omega) ?_)
        rw [w64s (by omega)]
        exact e2
      · rcases s2 with rfl | ⟨p2, q2, o2⟩
        · exact Or.inl rfl
        · refine Or.inr ⟨p2, by omega, ?_⟩
          rw [List.drop_eq_getElem_cons hlt]
          exact List.forall_mem_cons.2 ⟨o1, o2⟩
theorem laws_szRowS.ev (l : List S105) (h : (l.length ≤ 9223372036854775807 ∧ ∀ y ∈ l, fit105 y)) (a : Int) (h0 : 0 ≤ a) (h1 : a ≤ 1048576) : ∃ r, Ev (fun k => laws_szRowS.f k l a) r ∧ SzR (l.length ≤ 1048576 ∧ ∀ y ∈ l, ok105 y) a r := by
  obtain ⟨hl, hx⟩ := h
  unfold laws_szRowS.f
  rw [w64 (by omega) (by omega)]
  by_cases h : (l.length : Int) ≤ a
  · obtain ⟨r, e, s⟩ := laws_szRowS.ev0 l hl hx l.length 0 (a - l.length) (by omega) (by omega) (by omega)
    refine ⟨r, ev_neg (by omega) e, ?_⟩
    rcases s with rfl | ⟨p, q, o⟩
    · exact Or.inl rfl
    · exact Or.inr ⟨p, by omega, by omega, by simpa using o⟩
  · exact ⟨-1, ev_pos (by omega) (ev_some rfl), Or.inl rfl⟩

theorem laws_szTable.ev (x0 : List S105) (h : (x0.length ≤ 9223372036854775807 ∧ ∀ y ∈ x0, fit105 y)) (a : Int) (h0 : 0 ≤ a) (h1 : a ≤ 1048576) : ∃ r, Ev (fun k => laws_szTable.f k x0 a) r ∧ SzR (x0.length ≤ 1048576 ∧ ∀ y ∈ x0, ok105 y) a r := by
  unfold laws_szTable.f
  have g0 := h
  obtain ⟨r0, e0, s0⟩ := laws_szRowS.ev x0 g0 a h0 h1
  rcases s0 with rfl | ⟨p0, q0, o0⟩
  · exact ⟨-1, Ev.bind e0 (ev_pos (by omega) (ev_some rfl)), Or.inl rfl⟩
  exact ⟨r0, Ev.bind e0 (ev_neg (by omega) (ev_some rfl)), Or.inr ⟨p0, by omega, o0⟩⟩

theorem laws_toByteS.ev (l : List Int) (h : okB l) : Ev (fun k => laws_toByteS.f k l) l := by
  have hl : l.length ≤ 1048576 := h
  unfold laws_toByteS.f
  refine ev_pos (by omega) (ev_pos (by simp only [toNat_nat]; omega) ?_)
  refine ev_to (ev_fill l (fun i => rd l i) (fun k ys i => laws_toByteS.l0 k l ys i) ?_ ?_ l.length 0 _ (by omega) (by simp)) ?_
  · intro n ys r hn hl hr
    refine ev_step ?_
    simp only [laws_toByteS.l0]
    refine ev_pos (by omega) (ev_pos (by omega) (ev_pos (by omega) ?_))
    rw [w64s (by omega)]
    exact hr
  · intro ys hl
    refine ev_step ?_
    simp only [laws_toByteS.l0]
    exact ev_neg (by omega) (ev_some rfl)
  · have := map_range_get l 0 id
    simpa [rd] using this

theorem laws_toRow.ev (x0 : Int) (x1 : List Int) (h : okB x1) : Ev (fun k => laws_toRow.f k x0 x1) (x0, x1) := by
  unfold laws_toRow.f
  have g0 := h
  refine Ev.bind (laws_toByteS.ev x1 g0) ?_
  exact ev_some rfl

theorem laws_toRowS.ev (l : List S105) (h : (l.length ≤ 1048576 ∧ ∀ y ∈ l, ok105 y)) : Ev (fun k => laws_toRowS.f k l) (l.map cv105) := by
  obtain ⟨hl, hx⟩ := h
  unfold laws_toRowS.f
  refine ev_pos (by omega) (ev_pos (by simp only [toNat_nat]; omega) ?_)
  refine ev_to (ev_fill l (fun i => cv105 (rd_T105 l i)) (fun k ys i => laws_toRowS.l0 k l ys i) ?_ ?_ l.length 0 _ (by omega) (by simp)) ?_
  · intro n ys r hn hl' hr
    have e : rd_T105 l (n : Int) = l[n] := getD_nat _ hn
    rw [e] at hr
    refine ev_step ?_
    simp only [laws_toRowS.l0]
    refine ev_pos (by omega) (ev_pos (by omega) ?_)
    rw [e]
    refine Ev.bind (laws_toRow.ev (l[n]).f0 (l[n]).f1 (hx _ (List.getElem_mem hn))) (ev_pos (by omega) ?_)
    rw [w64s (by omega)]
    exact hr
  · intro ys hl'
    refine ev_step ?_
    simp only [laws_toRowS.l0]
    exact ev_neg (by omega) (ev_some rfl)
  · have := map_range_get l z105 cv105
    simpa [rd_T105] using this

theorem laws_toTable.ev (x0 : List S105) (h : (x0.length ≤ 1048576 ∧ ∀ y ∈ x0, ok105 y)) : Ev (fun k => laws_toTable.f k x0) ((x0.map cv105)) := by
  unfold laws_toTable.f
  have g0 := h
  refine Ev.bind (laws_toRowS.ev x0 g0) ?_
  exact ev_some rfl

theorem laws_eqByteS.ev (l : List Int) (h : okB l) : Ev (fun k => laws_eqByteS.f k l l) true := by
  have hl : l.length ≤ 1048576 := h
  unfold laws_eqByteS.f
  refine ev_pos rfl ?_
  refine ev_all l.length (fun k i => laws_eqByteS.l0 k l l i) true ?_ ?_ l.length 0 (by omega)
  · intro n hn hr
    refine ev_step ?_
    simp only [laws_eqByteS.l0]
    refine ev_pos (by omega) (ev_pos (by omega) (ev_pos (by omega) (ev_pos trivial ?_)))
    rw [w64s (by omega)]
    exact hr
  · refine ev_step ?_
    simp only [laws_eqByteS.l0]
    exact ev_neg (by omega) (ev_some rfl)

theorem laws_eqRow.ev (x0 : Int) (x1 : List Int) (h : okB x1) : Ev (fun k => laws_eqRow.f k x0 x1 x0 x1) true := by
  unfold laws_eqRow.f
  have g0 := h
  refine ev_pos rfl ?_
  refine Ev.bind (laws_eqByteS.ev x1 g0) (ev_pos rfl ?_)
  exact ev_some rfl

theorem laws_eqRowS.ev (l : List S87) (h : (l.length ≤ 1048576 ∧ ∀ y ∈ l, ok87 y)) : Ev (fun k => laws_eqRowS.f k l l) true := by
  obtain ⟨hl, hx⟩ := h
  unfold laws_eqRowS.f
  refine ev_pos rfl ?_
  refine ev_all l.length (fun k i => laws_eqRowS.l0 k l l i) true ?_ ?_ l.length 0 (by omega)
  · intro n hn hr
    have e : rd_T87 l (n : Int) = l[n] := getD_nat _ hn
    refine ev_step ?_
    simp only [laws_eqRowS.l0]
    refine ev_pos (by omega) (ev_pos (by omega) (ev_pos (by omega) ?_))
    rw [e]
    refine Ev.bind (laws_eqRow.ev (l[n]).f0 (l[n]).f1 (hx _ (List.getElem_mem hn))) (ev_pos rfl ?_)
    rw [w64s (by omega)]
    exact hr
  · refine ev_step ?_
    simp only [laws_eqRowS.l0]
    exact ev_neg (by omega) (ev_some rfl)

theorem laws_eqTable.ev (x0 : List S87) (h : (x0.length ≤ 1048576 ∧ ∀ y ∈ x0, ok87 y)) : Ev (fun k => laws_eqTable.f k x0 x0) true := by
  unfold laws_eqTable.f
  have g0 := h
  refine Ev.bind (laws_eqRowS.ev x0 g0) (ev_pos rfl ?_)
  exact ev_some rfl

theorem spec_SameBytes.eq (a b : List Int) : spec_SameBytes.f a b = some (sameB a b) := rfl
theorem spec_SameBytes.ev (a b : List Int) : Ev (fun k => spec_SameBytes.f a b) (sameB a b) := ev_eq rfl

theorem spec_TableSame.ev (a b : List S87) (ha : nL87 a) (hb : nL87 b) : Ev (fun k => spec_TableSame.f k a b) (tableSame a b) := by
  have la := ha.1
  unfold spec_TableSame.f tableSame
  refine ev_ite (fun c => ?_) (fun c => ev_some (by rw [show decide (a.length = b.length) = false from decide_eq_false (by omega)]; rfl))
  have c' : a.length = b.length := by omega
  rw [decide_eq_true c', Bool.true_and]
  refine ev_allp (fun k i => spec_TableSame.l0 k a (a.length : Int) i b) a.length (rowSame a b) ?_ ?_ ?_ a.length 0 (by omega)
  · intro n hn hp r hr
    simp only [rowSame, Bool.and_eq_true, decide_eq_true_eq] at hp
    refine ev_step ?_
    simp only [spec_TableSame.l0, spec_SameBytes.eq, Option.bind_some]
    refine ev_pos (by omega) (ev_pos (by omega) (ev_pos (by omega) (ev_pos (by omega) (ev_pos hp.1 (ev_pos hp.2 ?_)))))
    rw [w64s (by omega)]
    exact hr
  · intro n hn hp
    refine ev_step ?_
    simp only [spec_TableSame.l0, spec_SameBytes.eq, Option.bind_some]
    refine ev_pos (by omega) (ev_pos (by omega) (ev_pos (by omega) (ev_pos (by omega) (ev_ite (fun e => ev_neg (fun f => ?_) (ev_some rfl)) (fun _ => ev_some rfl)))))
    have : rowSame a b n = true := by
      simp only [rowSame, Bool.and_eq_true, decide_eq_true_eq]
      exact ⟨e, f⟩
    rw [hp] at this
    cases this
  · refine ev_step ?_
    simp only [spec_TableSame.l0]
    exact ev_neg (by omega) (ev_some rfl)

theorem impl_SameBytes.eq (a b : List Int) : impl_SameBytes.f a b = some (sameB a b) := rfl
theorem impl_SameBytes.ev (a b : List Int) : Ev (fun k => impl_SameBytes.f a b) (sameB a b) := ev_eq rfl

theorem impl_TableSame.ev (a b : List S87) (ha : nL87 a) (hb : nL87 b) : Ev (fun k => impl_TableSame.f k a b) (tableSame a b) := by
  have la := ha.1
  unfold impl_TableSame.f tableSame
  refine ev_ite (fun c => ?_) (fun c => ev_some (by rw [show decide (a.length = b.length) = false from decide_eq_false (by omega)]; rfl))
  have c' : a.length = b.length := by omega
  rw [decide_eq_true c', Bool.true_and]
  refine ev_allp (fun k i => impl_TableSame.l0 k (a.length : Int) i a b) a.length (rowSame a b) ?_ ?_ ?_ a.length 0 (by omega)
  · intro n hn hp r hr
    simp only [rowSame, Bool.and_eq_true, decide_eq_true_eq] at hp
    refine ev_step ?_
    simp only [impl_TableSame.l0, impl_SameBytes.eq, Option.bind_some]
    refine ev_pos (by omega) (ev_pos (by omega) (ev_pos (by omega) (ev_pos (by omega) (ev_pos hp.1 (ev_pos hp.2 ?_)))))
    rw [w64s (by omega)]
    exact hr
  · intro n hn hp
    refine ev_step ?_
    simp only [impl_TableSame.l0, impl_SameBytes.eq, Option.bind_some]
    refine ev_pos (by omega) (ev_pos (by omega) (ev_pos (by omega) (ev_pos (by omega) (ev_ite (fun e => ev_neg (fun f => ?_) (ev_some rfl)) (fun _ => ev_some rfl)))))
    have : rowSame a b n = true := by
      simp only [rowSame, Bool.and_eq_true, decide_eq_true_eq]
      exact ⟨e, f⟩
    rw [hp] at this
    cases this
  · refine ev_step ?_
    simp only [impl_TableSame.l0]
    exact ev_neg (by omega) (ev_some rfl)

end Go.Proofs.Ytdkmoaokclnopaa.PFnExactTableSame
