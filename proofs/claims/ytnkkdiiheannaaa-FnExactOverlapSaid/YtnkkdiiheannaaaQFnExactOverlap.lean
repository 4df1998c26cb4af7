/- What the printed functions of FnExactOverlap come to, in plain terms. No condition beside those that each lemma names. -/
import Derived.Test.YtnkkdiiheannaaaFFnExactOverlapx0
import Derived.Test.YtnkkdiiheannaaaFFnExactOverlapx1
import Derived.Test.YtnkkdiiheannaaaFFnExactOverlapx2
import Derived.Test.YtnkkdiiheannaaaFFnExactOverlapx3
import Derived.Test.YtnkkdiiheannaaaFFnExactOverlapx4
import Derived.Test.YtnkkdiiheannaaaFFnExactOverlapx5
import Derived.Test.YtnkkdiiheannaaaFFnExactOverlapx6
import Derived.Test.YtnkkdiiheannaaaBits
import Derived.Test.YtnkkdiiheannaaaCrc
import Derived.Test.YtnkkdiiheannaaaEv
import Derived.Test.YtnkkdiiheannaaaRd
namespace Go.Proofs.Ytnkkdiiheannaaa.PFnExactOverlap
open Go.RowKit Go.Proofs.YtnkkdiiheannaaaW.PrintWords Go.Proofs.YtnkkdiiheannaaaW.PrintLast Go.Proofs.YtnkkdiiheannaaaR
set_option linter.unusedVariables false
set_option linter.unusedSimpArgs false

def fit74 (x : S74) : Prop := ((x).f1.length ≤ 9223372036854775807)
def ok74 (x : S74) : Prop := okB (x).f1
def nice74 (x : S74) : Prop := i64r (x).f0 ∧ niceB (x).f1
def nL74 (l : List S74) : Prop := l.length ≤ 1048576 ∧ ∀ y ∈ l, nice74 y
theorem nice74_ok {x : S74} (h : nice74 x) : ok74 x := by
  obtain ⟨n0, n1⟩ := h; exact (niceB_ok n1)

/-- A table that is valid, told of its rows. -/
def tableOk (l : List S74) : Bool := l.all (fun r => decide (1 ≤ r.f0 ∧ r.f0 ≤ 1099511627776) && decide (1 ≤ r.f1.length ∧ r.f1.length ≤ 64)) && decide (1 ≤ l.length ∧ l.length ≤ 10)
theorem tableOk_iff {l : List S74} : tableOk l = true ↔ (∀ r ∈ l, (1 ≤ r.f0 ∧ r.f0 ≤ 1099511627776) ∧ 1 ≤ r.f1.length ∧ r.f1.length ≤ 64) ∧ 1 ≤ l.length ∧ l.length ≤ 10 := by
  simp [tableOk]
/-- The sum of the weights. -/
def total : List S74 → Int
  | [] => 0
  | r :: t => r.f0 + total t
/-- The weight of those whose bit, from i on, is set. -/
def wsum (b : List Int) : Nat → List S74 → Int
  | _, [] => 0
  | i, r :: t => (if bitAt b i = true then r.f0 else 0) + wsum b (i + 1) t
def totalOf (l : List S74) : Int := if tableOk l = true then total l else 0
def weightOf (l : List S74) (b : List Int) : Int := if tableOk l = true ∧ bitsOk b (l.length : Int) = true then wsum b 0 l else 0
theorem total_bd {l : List S74} (h : ∀ r ∈ l, 1 ≤ r.f0 ∧ r.f0 ≤ 1099511627776) : 0 ≤ total l ∧ total l ≤ l.length * 1099511627776 := by
  induction l with
  | nil => simp [total]
  | cons r t ih =>
    have h0 := h r (by simp)
    have := ih (fun x hx => h x (by simp [hx]))
    simp only [total, List.length_cons]
    omega
theorem wsum_bd {b : List Int} {l : List S74} (h : ∀ r ∈ l, 1 ≤ r.f0 ∧ r.f0 ≤ 1099511627776) : ∀ i, 0 ≤ wsum b i l ∧ wsum b i l ≤ total l := by
  induction l with
  | nil => intro i; simp [wsum, total]
  | cons r t ih =>
    intro i
    have h0 := h r (by simp)
    have := ih (fun x hx => h x (by simp [hx])) (i + 1)
    simp only [total, wsum]
    split <;> omega
/-- The weights at the places of a list. -/
def isum (l : List S74) : List Nat → Int
  | [] => 0
  | i :: t => (l.getD i z74).f0 + isum l t
theorem isum_bits (b : List Int) (l : List S74) : ∀ (m i : Nat), (∀ j, l.length ≤ j → bitAt b j = false) → l.length ≤ i + m → isum l (bitsFrom b i m) = wsum b i (l.drop i)
  | 0, i, h, hm => by rw [List.drop_of_length_le (by omega)]; rfl
  | m + 1, i, h, hm => by
    have ih := isum_bits b l m (i + 1) h (by omega)
    by_cases c : i < l.length
    · rw [List.drop_eq_getElem_cons c]
      unfold bitsFrom wsum
      split
      · simp [isum, ih, c]
      · simp [ih]
    · have z := h i (by omega)
      unfold bitsFrom
      rw [List.drop_of_length_le (by omega)] at ih ⊢
      rw [if_neg (by rw [z]; simp), ih]
      rfl
def rowSame (a b : List S74) (i : Nat) : Bool := decide ((a.getD i z74).f0 = (b.getD i z74).f0) && sameB (a.getD i z74).f1 (b.getD i z74).f1
def tableSame (a b : List S74) : Bool := decide (a.length = b.length) && allFrom (rowSame a b) 0 a.length
theorem totalOf_bd (l : List S74) : 0 ≤ totalOf l ∧ totalOf l ≤ 10995116277760 := by
  unfold totalOf
  split
  · rename_i h
    obtain ⟨h1, _, h2⟩ := tableOk_iff.1 h
    have := total_bd (fun r hr => (h1 r hr).1)
    omega
  · omega
theorem weightOf_bd (l : List S74) (b : List Int) : 0 ≤ weightOf l b ∧ weightOf l b ≤ totalOf l := by
  have := totalOf_bd l
  unfold weightOf
  split
  · rename_i h
    obtain ⟨h1, _, h2⟩ := tableOk_iff.1 h.1
    have := wsum_bd (b := b) (fun r hr => (h1 r hr).1) 0
    unfold totalOf
    rw [if_pos h.1]
    exact this
  · omega
def isQuorum (l : List S74) (b : List Int) : Bool := tableOk l && decide (3 * weightOf l b > 2 * totalOf l)
def isFew (l : List S74) (b : List Int) : Bool := tableOk l && (bitsOk b (l.length : Int) && decide (3 * weightOf l b < totalOf l))

def fit131 (x : S131) : Prop := ((x).f1.length ≤ 9223372036854775807)
def ok131 (x : S131) : Prop := okB (x).f1
def nice131 (x : S131) : Prop := i64r (x).f0 ∧ niceB (x).f1
def nL131 (l : List S131) : Prop := l.length ≤ 1048576 ∧ ∀ y ∈ l, nice131 y
theorem nice131_ok {x : S131} (h : nice131 x) : ok131 x := by
  obtain ⟨n0, n1⟩ := h; exact (niceB_ok n1)
def good131 (x : S131) : Prop := ((Lit.int .i64 (x).f0).wf = true ∧ ((x).f1.length ≤ 9223372036854775807 ∧ ∀ y ∈ (x).f1, (Lit.int .u8 y).wf = true))
theorem good131_fit {x : S131} (h : good131 x) : fit131 x := by
  obtain ⟨g0, g1⟩ := h; exact (g1.1)
theorem nice131_of {x : S131} (h : good131 x) (o : ok131 x) : nice131 x := by
  obtain ⟨g0, g1⟩ := h; have o1 := o; exact ⟨(wf64 g0), (niceB_of g1 o1)⟩
def cv131 (x : S131) : S74 := ⟨(x).f0, (x).f1⟩
theorem nice131_cv {x : S131} (h : nice131 x) : nice74 (cv131 x) := by
  obtain ⟨n0, n1⟩ := h; exact ⟨n0, n1⟩
theorem ok131_cv {x : S131} (h : ok131 x) : ok74 (cv131 x) := by
  have o1 := h; exact o1
theorem nL131_cv {l : List S131} (h : nL131 l) : nL74 (l.map cv131) := ⟨by simpa using h.1, fun y hy => by obtain ⟨x, hx, rfl⟩ := List.mem_map.1 hy; exact nice131_cv (h.2 x hx)⟩
theorem oL131_cv {l : List S131} (h : l.length ≤ 1048576 ∧ ∀ y ∈ l, ok131 y) : (l.map cv131).length ≤ 1048576 ∧ ∀ y ∈ l.map cv131, ok74 y := ⟨by simpa using h.1, fun y hy => by obtain ⟨x, hx, rfl⟩ := List.mem_map.1 hy; exact ok131_cv (h.2 x hx)⟩

theorem laws_szByteS.ev (l : List Int) (h : l.length ≤ 9223372036854775807) (a : Int) (h0 : 0 ≤ a) (h1 : a ≤ 1048576) : ∃ r, Ev (fun _ => laws_szByteS.f l a) r ∧ SzR (okB l) a r := by
  unfold laws_szByteS.f
  rw [w64 (by omega) (by omega)]
  by_cases c : (l.length : Int) ≤ a
  · exact ⟨a - l.length, ev_neg (by omega) (ev_some rfl), Or.inr ⟨by omega, by omega, by unfold okB; omega⟩⟩
  · exact ⟨-1, ev_pos (by omega) (ev_some rfl), Or.inl rfl⟩

theorem laws_szRow.ev (x0 : Int) (x1 : List Int) (h : (x1.length ≤ 9223372036854775807)) (a : Int) (h0 : 0 ≤ a) (h1 : a ≤ 1048576) : ∃ r, Ev (fun k => laws_szRow.f x0 x1 a) r ∧ SzR (okB x1) a r := by
  unfold laws_szRow.f
  have g0 := h
  obtain ⟨r0, e0, s0⟩ := laws_szByteS.ev x1 g0 a h0 h1
  rcases s0 with rfl | ⟨p0, q0, o0⟩
  · exact ⟨-1, Ev.bind e0 (ev_pos (by omega) (ev_some rfl)), Or.inl rfl⟩
  exact ⟨r0, Ev.bind e0 (ev_neg (by omega) (ev_some rfl)), Or.inr ⟨p0, by omega, o0⟩⟩

theorem laws_szRowS.ev0 (l : List S131) (hl : l.length ≤ 9223372036854775807) (hx : ∀ x ∈ l, fit131 x) : ∀ (d n : Nat) (a : Int), n + d = l.length → 0 ≤ a → a ≤ 1048576 → ∃ r, Ev (fun k => laws_szRowS.l0 k l a (n : Int)) r ∧ SzR (∀ x ∈ l.drop n, ok131 x) a r
  | 0, n, a, hn, h0, h1 => ⟨a, by
      refine ev_step ?_
      simp only [laws_szRowS.l0]
      exact ev_neg (by omega) (ev_some rfl), Or.inr ⟨h0, Int.le_refl _, by rw [List.drop_of_length_le (by omega)]; simp⟩⟩
  | d + 1, n, a, hn, h0, h1 => by
    have hlt : n < l.length := by omega
    have e : rd_T131 l (n : Int) = l[n] := getD_nat _ hlt
    obtain ⟨r1, e1, s1⟩ := laws_szRow.ev (l[n]).f0 (l[n]).f1 (hx _ (List.getElem_mem hlt)) a h0 h1
    rcases s1 with rfl | ⟨p1, q1, o1⟩
    · refine ⟨-1, ?_, Or.inl rfl⟩
      refine ev_step ?_
      simp only [laws_szRowS.l0]
      refine ev_pos (by omega) (ev_pos (by omega) ?_)
      rw [e]
      exact Ev.bind e1 (ev_pos (by omega) (ev_some rfl))
    · obtain ⟨r2, e2, s2⟩ := laws_szRowS.ev0 l hl hx d (n + 1) r1 (by omega) p1 (by omega)
      refine ⟨r2, ?_, ?_⟩
      · refine ev_step ?_
        simp only [laws_szRowS.l0]
        refine ev_pos (by omega) (ev_pos (by omega) ?_)
        rw [e]
        refine Ev.bind e1 (ev_neg (by omega) ?_)
        rw [w64s (by omega)]
        exact e2
      · rcases s2 with rfl | ⟨p2, q2, o2⟩
        · exact Or.inl rfl
        · refine Or.inr ⟨p2, by omega, ?_⟩
          rw [List.drop_eq_getElem_cons hlt]
          exact List.forall_mem_cons.2 ⟨o1, o2⟩
theorem laws_szRowS.ev (l : List S131) (h : (l.length ≤ 9223372036854775807 ∧ ∀ y ∈ l, fit131 y)) (a : Int) (h0 : 0 ≤ a) (h1 : a ≤ 1048576) : ∃ r, Ev (fun k => laws_szRowS.f k l a) r ∧ SzR (l.length ≤ 1048576 ∧ ∀ y ∈ l, ok131 y) a r := by
  obtain ⟨hl, hx⟩ := h
  unfold laws_szRowS.f
  rw [w64 (by omega) (by omega)]
  by_cases h : (l.length : Int) ≤ a
  · obtain ⟨r, e, s⟩ := laws_szRowS.ev0 l hl hx l.length 0 (a - l.length) (by omega) (by omega) (by omega)
    refine ⟨r, ev_neg (by omega) e, ?_⟩
    rcases s with rfl | ⟨p, q, o⟩
    · exact Or.inl rfl
    · exact Or.inr ⟨p, by omega, by omega, by simpa using o⟩
  · exact ⟨-1, ev_pos (by omega) (ev_some rfl), Or.inl rfl⟩

theorem laws_szTable.ev (x0 : List S131) (h : (x0.length ≤ 9223372036854775807 ∧ ∀ y ∈ x0, fit131 y)) (a : Int) (h0 : 0 ≤ a) (h1 : a ≤ 1048576) : ∃ r, Ev (fun k => laws_szTable.f k x0 a) r ∧ SzR (x0.length ≤ 1048576 ∧ ∀ y ∈ x0, ok131 y) a r := by
  unfold laws_szTable.f
  have g0 := h
  obtain ⟨r0, e0, s0⟩ := laws_szRowS.ev x0 g0 a h0 h1
  rcases s0 with rfl | ⟨p0, q0, o0⟩
  · exact ⟨-1, Ev.bind e0 (ev_pos (by omega) (ev_some rfl)), Or.inl rfl⟩
  exact ⟨r0, Ev.bind e0 (ev_neg (by omega) (ev_some rfl)), Or.inr ⟨p0, by omega, o0⟩⟩

theorem laws_toByteS.ev (l : List Int) (h : okB l) : Ev (fun k => laws_toByteS.f k l) l := by
  have hl : l.length ≤ 1048576 := h
  unfold laws_toByteS.f
  refine ev_pos (by omega) (ev_pos (by simp only [toNat_nat]; omega) ?_)
  refine ev_to (ev_fill l (fun i => rd l i) (fun k ys i => laws_toByteS.l0 k l ys i) ?_ ?_ l.length 0 _ (by omega) (by simp)) ?_
  · intro n ys r hn hl hr
    refine ev_step ?_
    simp only [laws_toByteS.l0]
    refine ev_pos (by omega) (ev_pos (by omega) (ev_pos (by omega) ?_))
    rw [w64s (by omega)]
    exact hr
  · intro ys hl
    refine ev_step ?_
    simp only [laws_toByteS.l0]
    exact ev_neg (by omega) (ev_some rfl)
  · have := map_range_get l 0 id
    simpa [rd] using this

theorem laws_toRow.ev (x0 : Int) (x1 : List Int) (h : okB x1) : Ev (fun k => laws_toRow.f k x0 x1) (x0, x1) := by
  unfold laws_toRow.f
  have g0 := h
  refine Ev.bind (laws_toByteS.ev x1 g0) ?_
  exact ev_some rfl

theorem laws_toRowS.ev (l : List S131) (h : (l.length ≤ 1048576 ∧ ∀ y ∈ l, ok131 y)) : Ev (fun k => laws_toRowS.f k l) (l.map cv131) := by
  obtain ⟨hl, hx⟩ := h
  unfold laws_toRowS.f
  refine ev_pos (by omega) (ev_pos (by simp only [toNat_nat]; omega) ?_)
  refine ev_to (ev_fill l (fun i => cv131 (rd_T131 l i)) (fun k ys i => laws_toRowS.l0 k l ys i) ?_ ?_ l.length 0 _ (by omega) (by simp)) ?_
  · intro n ys r hn hl' hr
    have e : rd_T131 l (n : Int) = l[n] := getD_nat _ hn
    rw [e] at hr
    refine ev_step ?_
    simp only [laws_toRowS.l0]
    refine ev_pos (by omega) (ev_pos (by omega) ?_)
    rw [e]
    refine Ev.bind (laws_toRow.ev (l[n]).f0 (l[n]).f1 (hx _ (List.getElem_mem hn))) (ev_pos (by omega) ?_)
    rw [w64s (by omega)]
    exact hr
  · intro ys hl'
    refine ev_step ?_
    simp only [laws_toRowS.l0]
    exact ev_neg (by omega) (ev_some rfl)
  · have := map_range_get l z131 cv131
    simpa [rd_T131] using this

theorem laws_toTable.ev (x0 : List S131) (h : (x0.length ≤ 1048576 ∧ ∀ y ∈ x0, ok131 y)) : Ev (fun k => laws_toTable.f k x0) ((x0.map cv131)) := by
  unfold laws_toTable.f
  have g0 := h
  refine Ev.bind (laws_toRowS.ev x0 g0) ?_
  exact ev_some rfl

theorem laws_eqByteS.ev (l : List Int) (h : okB l) : Ev (fun k => laws_eqByteS.f k l l) true := by
  have hl : l.length ≤ 1048576 := h
  unfold laws_eqByteS.f
  refine ev_pos rfl ?_
  refine ev_all l.length (fun k i => laws_eqByteS.l0 k l l i) true ?_ ?_ l.length 0 (by omega)
  · intro n hn hr
    refine ev_step ?_
    simp only [laws_eqByteS.l0]
    refine ev_pos (by omega) (ev_pos (by omega) (ev_pos (by omega) (ev_pos trivial ?_)))
    rw [w64s (by omega)]
    exact hr
  · refine ev_step ?_
    simp only [laws_eqByteS.l0]
    exact ev_neg (by omega) (ev_some rfl)

theorem laws_eqRow.ev (x0 : Int) (x1 : List Int) (h : okB x1) : Ev (fun k => laws_eqRow.f k x0 x1 x0 x1) true := by
  unfold laws_eqRow.f
  have g0 := h
  refine ev_pos rfl ?_
  refine Ev.bind (laws_eqByteS.ev x1 g0) (ev_pos rfl ?_)
  exact ev_some rfl

theorem laws_eqRowS.ev (l : List S74) (h : (l.length ≤ 1048576 ∧ ∀ y ∈ l, ok74 y)) : Ev (fun k => laws_eqRowS.f k l l) true := by
  obtain ⟨hl, hx⟩ := h
  unfold laws_eqRowS.f
  refine ev_pos rfl ?_
  refine ev_all l.length (fun k i => laws_eqRowS.l0 k l l i) true ?_ ?_ l.length 0 (by omega)
  · intro n hn hr
    have e : rd_T74 l (n : Int) = l[n] := getD_nat _ hn
    refine ev_step ?_
    simp only [laws_eqRowS.l0]
    refine ev_pos (by omega) (ev_pos (by omega) (ev_pos (by omega) ?_))
    rw [e]
    refine Ev.bind (laws_eqRow.ev (l[n]).f0 (l[n]).f1 (hx _ (List.getElem_mem hn))) (ev_pos rfl ?_)
    rw [w64s (by omega)]
    exact hr
  · refine ev_step ?_
    simp only [laws_eqRowS.l0]
    exact ev_neg (by omega) (ev_some rfl)

theorem laws_eqTable.ev (x0 : List S74) (h : (x0.length ≤ 1048576 ∧ ∀ y ∈ x0, ok74 y)) : Ev (fun k => laws_eqTable.f k x0 x0) true := by
  unfold laws_eqTable.f
  have g0 := h
  refine Ev.bind (laws_eqRowS.ev x0 g0) (ev_pos rfl ?_)
  exact ev_some rfl

theorem spec_l01In.eq (a b c : Int) : spec_l01In.f a b c = some (decide (b ≤ a ∧ a ≤ c)) := by
  unfold spec_l01In.f
  split <;> simp_all <;> omega

theorem spec_l02Signers.eq (a : Int) : spec_l02Signers.f a = some (decide (1 ≤ a ∧ a ≤ 10)) := by
  unfold spec_l02Signers.f
  rw [spec_l01In.eq]
  rfl

theorem spec_TableOk.ev0 (l : List S74) (h : nL74 l) : ∀ (d n : Nat), n + d = l.length → Ev (fun k => spec_TableOk.l0 k l (l.length : Int) (n : Int) l) ((l.drop n).all (fun r => decide (1 ≤ r.f0 ∧ r.f0 ≤ 1099511627776) && decide (1 ≤ r.f1.length ∧ r.f1.length ≤ 64)) && decide (1 ≤ l.length ∧ l.length ≤ 10))
  | 0, n, hn => by
    have hl := h.1
    refine ev_step ?_
    simp only [spec_TableOk.l0, spec_l02Signers.eq, Option.bind_some]
    refine ev_neg (by omega) (ev_some ?_)
    rw [List.drop_of_length_le (by omega)]
    have e : (1 ≤ (l.length : Int) ∧ (l.length : Int) ≤ 10) ↔ (1 ≤ l.length ∧ l.length ≤ 10) := by omega
    simp [e]
  | d + 1, n, hn => by
    have hl := h.1
    have hlt : n < l.length := by omega
    have e : rd_T74 l (n : Int) = l[n] := getD_nat _ hlt
    refine ev_step ?_
    simp only [spec_TableOk.l0, spec_l01In.eq, Option.bind_some]
    refine ev_pos (by omega) (ev_pos (by omega) (ev_pos (by omega) ?_))
    rw [e, List.drop_eq_getElem_cons hlt]
    simp only [List.all_cons]
    refine ev_ite (fun c1 => ?_) (fun c1 => ev_some ?_)
    · refine ev_ite (fun c2 => ?_) (fun c2 => ev_some ?_)
      · rw [w64s (by omega)]
        refine ev_to (spec_TableOk.ev0 l h d (n + 1) (by omega)) ?_
        simp only [decide_eq_true_eq] at c1 c2
        have c3 : 1 ≤ (l[n]).f1.length ∧ (l[n]).f1.length ≤ 64 := by omega
        simp only [c1, c3, and_self, decide_true, Bool.true_and]
      · simp only [decide_eq_true_eq] at c2
        have c3 : ¬ (1 ≤ (l[n]).f1.length ∧ (l[n]).f1.length ≤ 64) := by omega
        simp only [c3, decide_false, Bool.and_false, Bool.false_and]
    · simp only [decide_eq_true_eq] at c1
      simp only [c1, decide_false, Bool.false_and]
theorem spec_TableOk.ev (l : List S74) (h : nL74 l) : Ev (fun k => spec_TableOk.f k l) (tableOk l) := by
  unfold spec_TableOk.f
  refine ev_to (spec_TableOk.ev0 l h l.length 0 (by omega)) ?_
  unfold tableOk
  rw [List.drop_zero]

theorem spec_BitsSize.eq (n : Int) (h : i64r n) : spec_BitsSize.f n = some (bitsSize n) := by
  have h' : -9223372036854775808 ≤ n ∧ n ≤ 9223372036854775807 := h
  unfold spec_BitsSize.f bitsSize
  by_cases c : n < 1
  · rw [if_pos c, if_pos c]
  · rw [if_neg c, if_neg c, w64 (n := n - 1) (by omega) (by omega), Int.tdiv_eq_ediv_of_nonneg (by omega), w64 (n := (n - 1) / 8) (by omega) (by omega), w64 (by omega) (by omega)]
theorem spec_BitsSize.ev (n : Int) (h : i64r n) : Ev (fun k => spec_BitsSize.f n) (bitsSize n) := ev_eq (spec_BitsSize.eq n h)

theorem spec_BitsHas.eq (b : List Int) (h : niceB b) (i : Nat) (hi : i ≤ 4611686018427387904) : spec_BitsHas.f b (i : Int) = some (bitAt b i) := by
  have hl := h.1
  have e8 : Int.tdiv (i : Int) 8 = ((i / 8 : Nat) : Int) := tdiv_nat i 8
  have m8 : Int.tmod (i : Int) 8 = ((i % 8 : Nat) : Int) := tmod_nat i 8
  have q := rd_nice h ((i / 8 : Nat) : Int)
  unfold spec_BitsHas.f
  rw [e8, m8, w64n (by omega), w64 (n := rd b _) (by omega) (by omega)]
  by_cases c : i < 8 * b.length
  · rw [if_pos (by omega), if_pos (by omega), if_pos (by omega), if_pos (by omega)]
    have e : shr .i64 (rd b ((i / 8 : Nat) : Int)) ((i % 8 : Nat) : Int) = rd b ((i / 8 : Nat) : Int) / 2 ^ (i % 8) := by
      unfold shr
      rw [toNat_nat, Nat.min_eq_left (by show i % 8 ≤ 64; omega)]
    have d := div_pow_bd q.1 q.2 (i % 8)
    rw [e, Int.tmod_eq_emod_of_nonneg d.1]
    rfl
  · rw [if_pos (by omega), if_neg (by omega), bitAt_out (by omega)]
theorem spec_BitsHas.ev (b : List Int) (h : niceB b) (i : Nat) (hi : i ≤ 4611686018427387904) : Ev (fun k => spec_BitsHas.f b (i : Int)) (bitAt b i) := ev_eq (spec_BitsHas.eq b h i hi)

theorem spec_BitsList.ev0 (b : List Int) (h : niceB b) : ∀ (d n : Nat) (acc : List Int), n + d = 8 * b.length → acc.length ≤ n → Ev (fun k => spec_BitsList.l0 k b acc (n : Int)) (acc ++ (bitsFrom b n d).map fun (n : Nat) => (n : Int))
  | 0, n, acc, hn, ha => by
    have hl := h.1
    refine ev_step ?_
    simp only [spec_BitsList.l0]
    rw [w64 (n := 8 * (b.length : Int)) (by omega) (by omega)]
    exact ev_neg (by omega) (ev_some (by simp [bitsFrom]))
  | d + 1, n, acc, hn, ha => by
    have hl := h.1
    refine ev_step ?_
    simp only [spec_BitsList.l0, spec_BitsHas.eq b h n (by omega), Option.bind_some]
    rw [w64 (n := 8 * (b.length : Int)) (by omega) (by omega)]
    refine ev_pos (by omega) ?_
    rw [w64s (by omega)]
    unfold bitsFrom
    refine ev_ite (fun c => ?_) (fun c => ?_)
    · rw [if_pos c]
      refine ev_pos (by omega) (ev_to (spec_BitsList.ev0 b h d (n + 1) _ (by omega) (by simp; omega)) ?_)
      simp
    · rw [if_neg c]
      exact spec_BitsList.ev0 b h d (n + 1) acc (by omega) (by omega)
theorem spec_BitsList.ev (b : List Int) (h : niceB b) : Ev (fun k => spec_BitsList.f k b) (bitsList b) := by
  unfold spec_BitsList.f
  exact ev_to (spec_BitsList.ev0 b h (8 * b.length) 0 [] (by omega) (by simp)) (by simp [bitsList])

theorem spec_BitsOk.ev (b : List Int) (n : Int) (h : niceB b) (hn : i64r n) : Ev (fun k => spec_BitsOk.f k b n) (bitsOk b n) := by
  have hl := h.1
  have hL := bitsList_length b
  unfold spec_BitsOk.f bitsOk
  rw [all_lt_last]
  simp only [spec_l02Signers.eq, Option.bind_some, spec_BitsSize.eq n hn, decide_eq_true_eq]
  refine ev_ite (fun c => ?_) (fun c => ev_some (by simp [c]))
  refine ev_ite (fun e => ?_) (fun e => ev_some (by simp [e]))
  refine Ev.bind (spec_BitsList.ev b h) ?_
  refine ev_ite (fun z => ev_some ?_) (fun z => ?_)
  · have : bitsList b = [] := List.length_eq_zero_iff.1 (by omega)
    simp [c, e, this]
  · have hz : 0 < (bitsList b).length := by omega
    rw [w64p (by omega) hz]
    refine ev_pos (by omega) (ev_pos (by omega) (ev_some ?_))
    rw [rd_nat (by omega)]
    have : bitsList b ≠ [] := by intro x; rw [x] at hz; simp at hz
    simp [c, e, this, List.getLast_eq_getElem]

theorem spec_WeightOf.ev0 (l : List S74) (b : List Int) (hb : niceB b) (h : tableOk l = true) : ∀ (d n : Nat) (acc : Int), n + d = l.length → 0 ≤ acc → acc ≤ n * 1099511627776 → Ev (fun k => spec_WeightOf.l0 k b acc l (l.length : Int) (n : Int)) (acc + wsum b n (l.drop n)) := by
  intro d
  induction d with
  | zero =>
    intro n acc hn h0 h1
    refine ev_step ?_
    simp only [spec_WeightOf.l0]
    refine ev_neg (by omega) (ev_some ?_)
    rw [List.drop_of_length_le (by omega)]
    simp [wsum]
  | succ d ih =>
    intro n acc hn h0 h1
    obtain ⟨hr, _, hl⟩ := tableOk_iff.1 h
    have hlt : n < l.length := by omega
    have e : rd_T74 l (n : Int) = l[n] := getD_nat _ hlt
    have bd := (hr _ (List.getElem_mem hlt)).1
    refine ev_step ?_
    simp only [spec_WeightOf.l0, spec_BitsHas.eq b hb n (by omega), Option.bind_some]
    refine ev_pos (by omega) (ev_pos (by omega) (ev_pos (by omega) ?_))
    rw [e, w64s (by omega), w64 (by omega) (by omega), List.drop_eq_getElem_cons hlt, wsum]
    refine ev_ite (fun c => ?_) (fun c => ?_)
    · exact ev_to (ih (n + 1) _ (by omega) (by omega) (by omega)) (by rw [if_pos c]; omega)
    · exact ev_to (ih (n + 1) _ (by omega) (by omega) (by omega)) (by rw [if_neg c]; omega)
theorem spec_WeightOf.ev (l : List S74) (b : List Int) (h : nL74 l) (hb : niceB b) : Ev (fun k => spec_WeightOf.f k l b) (weightOf l b) := by
  have hl := h.1
  unfold spec_WeightOf.f weightOf
  refine Ev.bind (spec_TableOk.ev l h) ?_
  refine ev_ite (fun c => ?_) (fun c => ?_)
  · refine Ev.bind (spec_BitsOk.ev b _ hb (by unfold i64r; omega)) (ev_step ?_)
    simp only [spec_WeightOf.j0]
    refine ev_ite (fun e => ev_some ?_) (fun e => ?_)
    · simp at e
      rw [if_neg (by simp [e])]
    · simp at e
      exact ev_to (spec_WeightOf.ev0 l b hb c l.length 0 0 (by omega) (by omega) (by omega)) (by rw [if_pos ⟨c, e⟩, List.drop_zero]; omega)
  · refine ev_step ?_
    simp only [spec_WeightOf.j0]
    exact ev_pos trivial (ev_some (by rw [if_neg (by simp [c])]))

theorem spec_BitsAnd.ev0 (a b : List Int) (hl : a.length = b.length) (ha : a.length ≤ 1048576) : ∀ (d n : Nat), n + d = a.length → Ev (fun k => spec_BitsAnd.l0 k a b ((bitsZip .and a b).take n) (a.length : Int) (n : Int)) (bitsZip .and a b)
  | 0, n, hn => by
    refine ev_step ?_
    simp only [spec_BitsAnd.l0]
    refine ev_neg (by omega) (ev_some ?_)
    rw [List.take_of_length_le (by rw [bitsZip_length]; omega)]
  | d + 1, n, hn => by
    have hlt : n < a.length := by omega
    refine ev_step ?_
    simp only [spec_BitsAnd.l0]
    refine ev_pos (by omega) (ev_pos (by omega) (ev_pos (by omega) (ev_pos (by omega) ?_)))
    refine ev_pos (by rw [List.length_take]; omega) ?_
    rw [w64s (by omega), ← bitsZip_take hl hlt]
    exact spec_BitsAnd.ev0 a b hl ha d (n + 1) (by omega)
theorem spec_BitsAnd.ev (a b : List Int) (ha : niceB a) (hb : niceB b) : Ev (fun k => spec_BitsAnd.f k a b) (bitsBoth .and a b) := by
  unfold spec_BitsAnd.f bitsBoth
  refine ev_ite (fun c => ?_) (fun c => ev_some ?_)
  · have c' : a.length = b.length := by omega
    rw [if_pos c']
    exact spec_BitsAnd.ev0 a b c' ha.1 a.length 0 (by omega)
  · rw [if_neg (by omega)]
theorem spec_BitsAnd.nice (a b : List Int) (ha : niceB a) (hb : niceB b) : niceB (bitsBoth .and a b) := bitsBoth_nice _ ha

theorem spec_Overlap.ev (l : List S74) (a b : List Int) (h : nL74 l) (ha : niceB a) (hb : niceB b) : Ev (fun k => spec_Overlap.f k l a b) (weightOf l (bitsBoth .and a b)) := by
  unfold spec_Overlap.f
  refine Ev.bind (spec_BitsAnd.ev a b ha hb) (Ev.bind (spec_WeightOf.ev l _ h (bitsBoth_nice _ ha)) (ev_some rfl))

theorem impl_within.eq (a b c : Int) : impl_within.f a b c = some (decide (b ≤ a ∧ a ≤ c)) := by
  unfold impl_within.f
  split <;> simp [*]

theorem impl_BitsHas.eq (b : List Int) (h : niceB b) (i : Nat) (hi : i ≤ 4611686018427387904) : impl_BitsHas.f b (i : Int) = some (bitAt b i) := by
  have hl := h.1
  have e8 : Int.tdiv (i : Int) 8 = ((i / 8 : Nat) : Int) := tdiv_nat i 8
  have m8 : Int.tmod (i : Int) 8 = ((i % 8 : Nat) : Int) := tmod_nat i 8
  unfold impl_BitsHas.f
  rw [w64 (n := 8 * (b.length : Int)) (by omega) (by omega), w64 (by omega) (by omega), e8, m8, w64n (by omega)]
  simp only [impl_within.eq, Option.bind_some, decide_eq_true_eq]
  by_cases c : i < 8 * b.length
  · rw [if_pos (by omega), if_pos (by omega), if_pos (by omega), if_pos (by omega)]
    have q := rd_nice h ((i / 8 : Nat) : Int)
    have e : shr .u8 (rd b ((i / 8 : Nat) : Int)) ((i % 8 : Nat) : Int) = rd b ((i / 8 : Nat) : Int) / 2 ^ (i % 8) := by
      unfold shr
      rw [toNat_nat, Nat.min_eq_left (by show i % 8 ≤ 8; omega)]
    have d := div_pow_bd q.1 q.2 (i % 8)
    rw [e, u8_and1 d.1 d.2]
    rfl
  · rw [if_neg (by omega), bitAt_out (by omega)]
theorem impl_BitsHas.ev (b : List Int) (h : niceB b) (i : Nat) (hi : i ≤ 4611686018427387904) : Ev (fun k => impl_BitsHas.f b (i : Int)) (bitAt b i) := ev_eq (impl_BitsHas.eq b h i hi)

theorem impl_BitsList.ev0 (b : List Int) (h : niceB b) : ∀ (d n : Nat) (acc : List Int), n + d = 8 * b.length → acc.length ≤ n → Ev (fun k => impl_BitsList.l0 k b acc ((8 * b.length : Nat) : Int) (n : Int)) (acc ++ (bitsFrom b n d).map fun (n : Nat) => (n : Int))
  | 0, n, acc, hn, ha => by
    refine ev_step ?_
    simp only [impl_BitsList.l0]
    exact ev_neg (by omega) (ev_some (by simp [bitsFrom]))
  | d + 1, n, acc, hn, ha => by
    have hl := h.1
    refine ev_step ?_
    simp only [impl_BitsList.l0, impl_BitsHas.eq b h n (by omega), Option.bind_some]
    refine ev_pos (by omega) ?_
    rw [w64s (by omega)]
    unfold bitsFrom
    refine ev_ite (fun c => ?_) (fun c => ?_)
    · rw [if_pos c]
      refine ev_pos (by omega) (ev_to (impl_BitsList.ev0 b h d (n + 1) _ (by omega) (by simp; omega)) ?_)
      simp
    · rw [if_neg c]
      exact impl_BitsList.ev0 b h d (n + 1) acc (by omega) (by omega)
theorem impl_BitsList.ev (b : List Int) (h : niceB b) : Ev (fun k => impl_BitsList.f k b) (bitsList b) := by
  have hl := h.1
  unfold impl_BitsList.f
  rw [w64 (by omega) (by omega)]
  exact ev_to (impl_BitsList.ev0 b h (8 * b.length) 0 [] (by omega) (by simp)) (by simp [bitsList])

theorem impl_TableOk.ev0 (l : List S74) (h : nL74 l) : ∀ (d n : Nat), n + d = l.length → Ev (fun k => impl_TableOk.l0 k l (l.length : Int) (n : Int) l) ((l.drop n).all (fun r => decide (1 ≤ r.f0 ∧ r.f0 ≤ 1099511627776) && decide (1 ≤ r.f1.length ∧ r.f1.length ≤ 64)) && decide (1 ≤ l.length ∧ l.length ≤ 10))
  | 0, n, hn => by
    have hl := h.1
    refine ev_step ?_
    simp only [impl_TableOk.l0, impl_within.eq, Option.bind_some]
    refine ev_neg (by omega) (ev_some ?_)
    rw [List.drop_of_length_le (by omega)]
    have e : (1 ≤ (l.length : Int) ∧ (l.length : Int) ≤ 10) ↔ (1 ≤ l.length ∧ l.length ≤ 10) := by omega
    simp [e]
  | d + 1, n, hn => by
    have hl := h.1
    have hlt : n < l.length := by omega
    have e : rd_T74 l (n : Int) = l[n] := getD_nat _ hlt
    refine ev_step ?_
    simp only [impl_TableOk.l0, impl_within.eq, Option.bind_some]
    refine ev_pos (by omega) (ev_pos (by omega) (ev_pos (by omega) ?_))
    rw [e, List.drop_eq_getElem_cons hlt]
    simp only [List.all_cons]
    refine ev_ite (fun c1 => ?_) (fun c1 => ev_some ?_)
    · refine ev_ite (fun c2 => ?_) (fun c2 => ev_some ?_)
      · rw [w64s (by omega)]
        refine ev_to (impl_TableOk.ev0 l h d (n + 1) (by omega)) ?_
        simp only [decide_eq_true_eq] at c1 c2
        have c3 : 1 ≤ (l[n]).f1.length ∧ (l[n]).f1.length ≤ 64 := by omega
        simp only [c1, c3, and_self, decide_true, Bool.true_and]
      · simp only [decide_eq_true_eq] at c2
        have c3 : ¬ (1 ≤ (l[n]).f1.length ∧ (l[n]).f1.length ≤ 64) := by omega
        simp only [c3, decide_false, Bool.and_false, Bool.false_and]
    · simp only [decide_eq_true_eq] at c1
      simp only [c1, decide_false, Bool.false_and]
theorem impl_TableOk.ev (l : List S74) (h : nL74 l) : Ev (fun k => impl_TableOk.f k l) (tableOk l) := by
  unfold impl_TableOk.f
  refine ev_to (impl_TableOk.ev0 l h l.length 0 (by omega)) ?_
  unfold tableOk
  rw [List.drop_zero]

theorem impl_BitsSize.eq (n : Int) (h : i64r n) : impl_BitsSize.f n = some (bitsSize n) := by
  have h' : -9223372036854775808 ≤ n ∧ n ≤ 9223372036854775807 := h
  unfold impl_BitsSize.f bitsSize
  by_cases c : n < 1
  · rw [if_pos c, if_pos c]
  · rw [if_neg c, if_neg c, w64 (n := n - 1) (by omega) (by omega), Int.tdiv_eq_ediv_of_nonneg (by omega), w64 (n := (n - 1) / 8) (by omega) (by omega), w64 (by omega) (by omega)]
theorem impl_BitsSize.ev (n : Int) (h : i64r n) : Ev (fun k => impl_BitsSize.f n) (bitsSize n) := ev_eq (impl_BitsSize.eq n h)

theorem impl_BitsOk.ev0 (n : Int) (l : List Int) (hl : l.length ≤ 9223372036854775806) : ∀ (d i : Nat), i + d = l.length → Ev (fun k => impl_BitsOk.l0 k n l (l.length : Int) (i : Int)) ((l.drop i).all fun x => decide (x < n))
  | 0, i, hi => by
    refine ev_step ?_
    simp only [impl_BitsOk.l0]
    refine ev_neg (by omega) (ev_some ?_)
    rw [List.drop_of_length_le (by omega)]
    rfl
  | d + 1, i, hi => by
    have hlt : i < l.length := by omega
    refine ev_step ?_
    simp only [impl_BitsOk.l0]
    refine ev_pos (by omega) (ev_pos (by omega) (ev_pos (by omega) ?_))
    rw [w64s (by omega), rd_nat hlt, List.drop_eq_getElem_cons hlt, List.all_cons]
    refine ev_ite (fun c => ev_some ?_) (fun c => ev_to (impl_BitsOk.ev0 n l hl d (i + 1) (by omega)) ?_)
    · simp; omega
    · simp; omega
theorem impl_BitsOk.ev (b : List Int) (n : Int) (h : niceB b) (hn : i64r n) : Ev (fun k => impl_BitsOk.f k b n) (bitsOk b n) := by
  have hl := h.1
  have hL := bitsList_length b
  unfold impl_BitsOk.f bitsOk
  simp only [impl_within.eq, Option.bind_some, impl_BitsSize.eq n hn, decide_eq_true_eq]
  refine ev_ite (fun c => ?_) (fun c => ?_)
  · refine ev_step ?_
    simp only [impl_BitsOk.j0]
    refine ev_ite (fun e => ev_some ?_) (fun e => ?_)
    · simp at e
      simp [e]
    · simp at e
      refine Ev.bind (impl_BitsList.ev b h) (ev_to (impl_BitsOk.ev0 n _ (by omega) (bitsList b).length 0 (by omega)) ?_)
      simp [c, e]
  · refine ev_step ?_
    simp only [impl_BitsOk.j0]
    exact ev_pos trivial (ev_some (by simp [c]))

theorem impl_WeightOf.ev0 (l : List S74) (h : tableOk l = true) (x : List Nat) (hx : ∀ i ∈ x, i < l.length) (hxl : x.length ≤ 16) : ∀ (d n : Nat) (acc : Int), n + d = x.length → 0 ≤ acc → acc ≤ n * 1099511627776 → Ev (fun k => impl_WeightOf.l0 k acc (x.map fun (i : Nat) => (i : Int)) (x.length : Int) (n : Int) l) (acc + isum l (x.drop n)) := by
  intro d
  induction d with
  | zero =>
    intro n acc hn h0 h1
    refine ev_step ?_
    simp only [impl_WeightOf.l0]
    refine ev_neg (by omega) (ev_some ?_)
    rw [List.drop_of_length_le (by omega)]
    simp [isum]
  | succ d ih =>
    intro n acc hn h0 h1
    obtain ⟨hr, _, hl⟩ := tableOk_iff.1 h
    have hlt : n < x.length := by omega
    have hi := hx _ (List.getElem_mem hlt)
    have e0 : rd (x.map fun (i : Nat) => (i : Int)) (n : Int) = (x[n] : Int) := by rw [rd_nat (by simpa using hlt), List.getElem_map]
    have e : rd_T74 l (x[n] : Int) = l[x[n]] := getD_nat _ hi
    have bd := (hr _ (List.getElem_mem hi)).1
    refine ev_step ?_
    simp only [impl_WeightOf.l0, e0, List.length_map]
    refine ev_pos (by omega) (ev_pos (by omega) (ev_pos (by omega) (ev_pos (by omega) (ev_pos (by omega) ?_))))
    rw [e, w64s (by omega), w64 (by omega) (by omega)]
    refine ev_to (ih (n + 1) _ (by omega) (by omega) (by omega)) ?_
    rw [List.drop_eq_getElem_cons hlt, isum]
    simp [hi]
    omega
theorem impl_WeightOf.ev (l : List S74) (b : List Int) (h : nL74 l) (hb : niceB b) : Ev (fun k => impl_WeightOf.f k l b) (weightOf l b) := by
  have hl := h.1
  unfold impl_WeightOf.f weightOf
  refine Ev.bind (impl_TableOk.ev l h) ?_
  refine ev_ite (fun c => ?_) (fun c => ?_)
  · refine Ev.bind (impl_BitsOk.ev b _ hb (by unfold i64r; omega)) (ev_step ?_)
    simp only [impl_WeightOf.j0]
    refine ev_ite (fun e => ev_some ?_) (fun e => ?_)
    · simp at e
      rw [if_neg (by simp [e])]
    · simp at e
      rw [if_pos ⟨c, e⟩]
      refine Ev.bind (impl_BitsList.ev b hb) ?_
      have b2 := bitsOk_len e
      obtain ⟨_, _, b3⟩ := bitsOk_iff.1 e
      have bl := bitsFrom_length b (8 * b.length) 0
      have el : ((bitsList b).length : Int) = ((bitsFrom b 0 (8 * b.length)).length : Int) := by simp [bitsList]
      rw [el]
      refine ev_to (impl_WeightOf.ev0 l c (bitsFrom b 0 (8 * b.length)) (fun i hi => ?_) (by omega) (bitsFrom b 0 (8 * b.length)).length 0 0 (by omega) (by omega) (by omega)) ?_
      · have := b3 (i : Int) (List.mem_map.2 ⟨i, hi, rfl⟩)
        omega
      · rw [List.drop_zero, isum_bits b l _ 0 (fun j hj => bitsOk_bit e (by omega)) ?_, List.drop_zero]
        · omega
        · obtain ⟨b4, b5, _⟩ := bitsOk_iff.1 e
          unfold bitsSize at b5
          split at b5 <;> omega
  · refine ev_step ?_
    simp only [impl_WeightOf.j0]
    exact ev_pos trivial (ev_some (by rw [if_neg (by simp [c])]))

theorem impl_each.ev0 (a b : List Int) (q : Int) (hl : a.length = b.length) (ha : a.length ≤ 1048576) : ∀ (d n : Nat), n + d = a.length → Ev (fun k => impl_each.l0 k a b ((bitsZip .and a b).take n) (a.length : Int) (n : Int)) (bitsZip .and a b)
  | 0, n, hn => by
    refine ev_step ?_
    simp only [impl_each.l0]
    refine ev_neg (by omega) (ev_some ?_)
    rw [List.take_of_length_le (by rw [bitsZip_length]; omega)]
  | d + 1, n, hn => by
    have hlt : n < a.length := by omega
    refine ev_step ?_
    simp only [impl_each.l0]
    refine ev_pos (by omega) (ev_pos (by omega) (ev_pos (by omega) (ev_pos (by omega) ?_)))
    simp only [impl_BitsAnd_fn1.f, Option.bind_some]
    refine ev_pos (by rw [List.length_take]; omega) ?_
    rw [w64s (by omega), ← bitsZip_take hl hlt]
    exact impl_each.ev0 a b q hl ha d (n + 1) (by omega)
theorem impl_each.ev (a b : List Int) (q : Int) (ha : niceB a) (hb : niceB b) : Ev (fun k => impl_each.f k a b q) (bitsBoth .and a b) := by
  unfold impl_each.f bitsBoth
  refine ev_ite (fun c => ?_) (fun c => ev_some ?_)
  · have c' : a.length = b.length := by omega
    rw [if_pos c']
    exact impl_each.ev0 a b q c' ha.1 a.length 0 (by omega)
  · rw [if_neg (by omega)]

theorem impl_BitsAnd.ev (a b : List Int) (ha : niceB a) (hb : niceB b) : Ev (fun k => impl_BitsAnd.f k a b) (bitsBoth .and a b) := by
  unfold impl_BitsAnd.f
  exact Ev.bind (impl_each.ev a b _ ha hb) (ev_some rfl)
theorem impl_BitsAnd.nice (a b : List Int) (ha : niceB a) (hb : niceB b) : niceB (bitsBoth .and a b) := bitsBoth_nice _ ha

theorem impl_Overlap.ev (l : List S74) (a b : List Int) (h : nL74 l) (ha : niceB a) (hb : niceB b) : Ev (fun k => impl_Overlap.f k l a b) (weightOf l (bitsBoth .and a b)) := by
  unfold impl_Overlap.f
  refine Ev.bind (impl_BitsAnd.ev a b ha hb) (Ev.bind (impl_WeightOf.ev l _ h (bitsBoth_nice _ ha)) (ev_some rfl))

end Go.Proofs.Ytnkkdiiheannaaa.PFnExactOverlap
