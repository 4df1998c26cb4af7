/- What the printed functions of FnLeast come to, in plain terms. No condition beside those that each lemma names. -/
import Derived.Test.YtnkkdiiheannaaaFFnLeastx0
import Derived.Test.YtnkkdiiheannaaaFFnLeastx1
import Derived.Test.YtnkkdiiheannaaaFFnLeastx2
import Derived.Test.YtnkkdiiheannaaaFFnLeastx3
import Derived.Test.YtnkkdiiheannaaaFFnLeastx4
import Derived.Test.YtnkkdiiheannaaaFFnLeastx5
import Derived.Test.YtnkkdiiheannaaaFFnLeastx6
import Derived.Test.YtnkkdiiheannaaaFFnLeastx7
import Derived.Test.YtnkkdiiheannaaaFFnLeastx8
import Derived.Test.YtnkkdiiheannaaaBits
import Derived.Test.YtnkkdiiheannaaaCrc
import Derived.Test.YtnkkdiiheannaaaEv
import Derived.Test.YtnkkdiiheannaaaRd
namespace Go.Proofs.Ytnkkdiiheannaaa.PFnLeast
open Go.RowKit Go.Proofs.YtnkkdiiheannaaaW.PrintWords Go.Proofs.YtnkkdiiheannaaaW.PrintLast Go.Proofs.YtnkkdiiheannaaaR
set_option linter.unusedVariables false
set_option linter.unusedSimpArgs false

def fit74 (x : S74) : Prop := ((x).f1.length ≤ 9223372036854775807)
def ok74 (x : S74) : Prop := okB (x).f1
def nice74 (x : S74) : Prop := i64r (x).f0 ∧ niceB (x).f1
def nL74 (l : List S74) : Prop := l.length ≤ 1048576 ∧ ∀ y ∈ l, nice74 y
theorem nice74_ok {x : S74} (h : nice74 x) : ok74 x := by
  obtain ⟨n0, n1⟩ := h; exact (niceB_ok n1)

/-- A table that is valid, told of its rows. -/
def tableOk (l : List S74) : Bool := l.all (fun r => decide (1 ≤ r.f0 ∧ r.f0 ≤ 1099511627776) && decide (1 ≤ r.f1.length ∧ r.f1.length ≤ 64)) && decide (1 ≤ l.length ∧ l.length ≤ 10)
theorem tableOk_iff {l : List S74} : tableOk l = true ↔ (∀ r ∈ l, (1 ≤ r.f0 ∧ r.f0 ≤ 1099511627776) ∧ 1 ≤ r.f1.length ∧ r.f1.length ≤ 64) ∧ 1 ≤ l.length ∧ l.length ≤ 10 := by
  simp [tableOk]
/-- The sum of the weights. -/
def total : List S74 → Int
  | [] => 0
  | r :: t => r.f0 + total t
/-- The weight of those whose bit, from i on, is set. -/
def wsum (b : List Int) : Nat → List S74 → Int
  | _, [] => 0
  | i, r :: t => (if bitAt b i = true then r.f0 else 0) + wsum b (i + 1) t
def totalOf (l : List S74) : Int := if tableOk l = true then total l else 0
def weightOf (l : List S74) (b : List Int) : Int := if tableOk l = true ∧ bitsOk b (l.length : Int) = true then wsum b 0 l else 0
theorem total_bd {l : List S74} (h : ∀ r ∈ l, 1 ≤ r.f0 ∧ r.f0 ≤ 1099511627776) : 0 ≤ total l ∧ total l ≤ l.length * 1099511627776 := by
  induction l with
  | nil => simp [total]
  | cons r t ih =>
    have h0 := h r (by simp)
    have := ih (fun x hx => h x (by simp [hx]))
    simp only [total, List.length_cons]
    omega
theorem wsum_bd {b : List Int} {l : List S74} (h : ∀ r ∈ l, 1 ≤ r.f0 ∧ r.f0 ≤ 1099511627776) : ∀ i, 0 ≤ wsum b i l ∧ wsum b i l ≤ total l := by
  induction l with
  | nil => intro i; simp [wsum, total]
  | cons r t ih =>
    intro i
    have h0 := h r (by simp)
    have := ih (fun x hx => h x (by simp [hx])) (i + 1)
    simp only [total, wsum]
    split <;> omega
/-- The weights at the places of a list. -/
def isum (l : List S74) : List Nat → Int
  | [] => 0
  | i :: t => (l.getD i z74).f0 + isum l t
theorem isum_bits (b : List Int) (l : List S74) : ∀ (m i : Nat), (∀ j, l.length ≤ j → bitAt b j = false) → l.length ≤ i + m → isum l (bitsFrom b i m) = wsum b i (l.drop i)
  | 0, i, h, hm => by rw [List.drop_of_length_le (by omega)]; rfl
  | m + 1, i, h, hm => by
    have ih := isum_bits b l m (i + 1) h (by omega)
    by_cases c : i < l.length
    · rw [List.drop_eq_getElem_cons c]
      unfold bitsFrom wsum
      split
      · simp [isum, ih, c]
      · simp [ih]
    · have z := h i (by omega)
      unfold bitsFrom
      rw [List.drop_of_length_le (by omega)] at ih ⊢
      rw [if_neg (by rw [z]; simp), ih]
      rfl
def rowSame (a b : List S74) (i : Nat) : Bool := decide ((a.getD i z74).f0 = (b.getD i z74).f0) && sameB (a.getD i z74).f1 (b.getD i z74).f1
def tableSame (a b : List S74) : Bool := decide (a.length = b.length) && allFrom (rowSame a b) 0 a.length
theorem totalOf_bd (l : List S74) : 0 ≤ totalOf l ∧ totalOf l ≤ 10995116277760 := by
  unfold totalOf
  split
  · rename_i h
    obtain ⟨h1, _, h2⟩ := tableOk_iff.1 h
    have := total_bd (fun r hr => (h1 r hr).1)
    omega
  · omega
theorem weightOf_bd (l : List S74) (b : List Int) : 0 ≤ weightOf l b ∧ weightOf l b ≤ totalOf l := by
  have := totalOf_bd l
  unfold weightOf
  split
  · rename_i h
    obtain ⟨h1, _, h2⟩ := tableOk_iff.1 h.1
    have := wsum_bd (b := b) (fun r hr => (h1 r hr).1) 0
    unfold totalOf
    rw [if_pos h.1]
    exact this
  · omega
def isQuorum (l : List S74) (b : List Int) : Bool := tableOk l && decide (3 * weightOf l b > 2 * totalOf l)
def isFew (l : List S74) (b : List Int) : Bool := tableOk l && (bitsOk b (l.length : Int) && decide (3 * weightOf l b < totalOf l))
theorem wsum_both {a b o n : List Int} (ho : ∀ j, bitAt o j = (bitAt a j || bitAt b j)) (hn : ∀ j, bitAt n j = (bitAt a j && bitAt b j)) (l : List S74) : ∀ i, wsum a i l + wsum b i l = wsum o i l + wsum n i l := by
  induction l with
  | nil => intro i; simp [wsum]
  | cons r t ih =>
    intro i
    have := ih (i + 1)
    simp only [wsum, ho, hn]
    cases bitAt a i <;> cases bitAt b i <;> simp <;> omega
theorem wsum_full {b : List Int} (l : List S74) : ∀ i, (∀ j, j < i + l.length → bitAt b j = true) → wsum b i l = total l := by
  induction l with
  | nil => intro i _; rfl
  | cons r t ih =>
    intro i h
    have := ih (i + 1) (fun j hj => h j (by simp only [List.length_cons]; omega))
    simp only [wsum, total]
    rw [if_pos (h i (by simp only [List.length_cons]; omega)), this]
theorem wsum_mono {a b : List Int} (h : ∀ j, bitAt a j = true → bitAt b j = true) {l : List S74} (hw : ∀ r ∈ l, 1 ≤ r.f0 ∧ r.f0 ≤ 1099511627776) : ∀ i, wsum a i l ≤ wsum b i l := by
  induction l with
  | nil => intro i; simp [wsum]
  | cons r t ih =>
    intro i
    have h0 := hw r (by simp)
    have := ih (fun x hx => hw x (by simp [hx])) (i + 1)
    simp only [wsum]
    split
    · rename_i c
      rw [if_pos (h i c)]
      omega
    · split <;> omega

theorem spec_l01New.ex0 (l : List Int) (h : l.length ≤ 1048576) : ∀ (d n : Nat) (s : Int), n + d = l.length → ∃ s', Ev (fun k => spec_l01New.l0 k l s (n : Int)) (l, 0, s')
  | 0, n, s, hn => by
    refine ⟨s, ev_step ?_⟩
    simp only [spec_l01New.l0]
    exact ev_neg (by omega) (ev_some rfl)
  | d + 1, n, s, hn => by
    by_cases c : n < 4000
    · obtain ⟨s', e⟩ := spec_l01New.ex0 l h d (n + 1) (Go.bits .and .i64 (wrap64 ((wrap64 ((wrap64 (s * 37)) + (wrap64 (rd l (n : Int))))) + 7)) 1073741823) (by omega)
      refine ⟨s', ev_step ?_⟩
      simp only [spec_l01New.l0]
      refine ev_pos (by omega) (ev_pos (by omega) (ev_pos (by omega) ?_))
      rw [w64s (by omega)]
      exact e
    · refine ⟨s, ev_step ?_⟩
      simp only [spec_l01New.l0]
      exact ev_pos (by omega) (ev_neg (by omega) (ev_some rfl))
theorem spec_l01New.ex (l : List Int) (h : l.length ≤ 1048576) : ∃ s, Ev (fun k => spec_l01New.f k l) (l, 0, s) := by
  unfold spec_l01New.f
  exact spec_l01New.ex0 l h l.length 0 _ (by omega)

theorem spec_l01Byte.ex (l : List Int) (p s : Int) (hp : 0 ≤ p) (h : l.length ≤ 1048576) : ∃ b p' s', spec_l01Byte.f l p s = some (b, p', s') ∧ 0 ≤ b ∧ b ≤ 255 ∧ 0 ≤ p' := by
  unfold spec_l01Byte.f
  by_cases c : p < (l.length : Int)
  · rw [if_pos c, if_pos hp]
    exact ⟨_, _, _, rfl, (and255 _).1, (and255 _).2, by rw [w64 (by omega) (by omega)]; omega⟩
  · rw [if_neg c]
    exact ⟨_, _, _, rfl, (and255 _).1, (and255 _).2, hp⟩

theorem spec_l01Below.ex (l : List Int) (p s n : Int) (hp : 0 ≤ p) (h : l.length ≤ 1048576) : ∃ b p' s', spec_l01Below.f l p s n = some (b, p', s') ∧ 0 ≤ p' ∧ (0 < n → 0 ≤ b ∧ b < n) ∧ (n ≤ 0 → b = 0) := by
  unfold spec_l01Below.f
  by_cases c : n ≤ 0
  · rw [if_pos c]
    exact ⟨0, p, s, rfl, hp, by omega, fun _ => rfl⟩
  · rw [if_neg c]
    by_cases d : n ≤ 256
    · rw [if_pos d]
      obtain ⟨b, p1, s1, e, b0, b1, hp1⟩ := spec_l01Byte.ex l p s hp h
      rw [e]
      simp only [Option.bind_some]
      rw [if_neg (by omega)]
      exact ⟨_, _, _, rfl, hp1, fun hn => ⟨Int.tmod_nonneg _ b0, Int.tmod_lt_of_pos _ hn⟩, by omega⟩
    · rw [if_neg d]
      obtain ⟨b1, p1, s1, e1, b10, b11, hp1⟩ := spec_l01Byte.ex l p s hp h
      obtain ⟨b2, p2, s2, e2, b20, b21, hp2⟩ := spec_l01Byte.ex l p1 s1 hp1 h
      obtain ⟨b3, p3, s3, e3, b30, b31, hp3⟩ := spec_l01Byte.ex l p2 s2 hp2 h
      obtain ⟨b4, p4, s4, e4, b40, b41, hp4⟩ := spec_l01Byte.ex l p3 s3 hp3 h
      simp only [e1, e2, e3, e4, Option.bind_some]
      rw [if_neg (by omega)]
      refine ⟨_, _, _, rfl, hp4, fun hn => ⟨Int.tmod_nonneg _ ?_, Int.tmod_lt_of_pos _ hn⟩, by omega⟩
      rw [w64 (n := b1 * 16777216) (by omega) (by omega), w64 (n := b2 * 65536) (by omega) (by omega), w64 (n := b3 * 256) (by omega) (by omega), w64 (n := b1 * 16777216 + b2 * 65536) (by omega) (by omega), w64 (n := b1 * 16777216 + b2 * 65536 + b3 * 256) (by omega) (by omega), w64 (by omega) (by omega)]
      omega

theorem spec_l01Pick.ex (l : List Int) (p s : Int) (xs : List Int) (hp : 0 ≤ p) (h : l.length ≤ 1048576) (hx : 0 < xs.length) : ∃ b p' s', spec_l01Pick.f l p s xs = some (b, p', s') ∧ 0 ≤ p' ∧ b ∈ xs := by
  unfold spec_l01Pick.f
  obtain ⟨b, p1, s1, e, hp1, hb, _⟩ := spec_l01Below.ex l p s (xs.length : Int) hp h
  obtain ⟨b0, b1⟩ := hb (by omega)
  rw [e]
  simp only [Option.bind_some]
  rw [if_pos b0, if_pos b1]
  refine ⟨_, _, _, rfl, hp1, ?_⟩
  obtain ⟨m, rfl⟩ := Int.eq_ofNat_of_zero_le b0
  rw [rd_nat (by omega)]
  exact List.getElem_mem _

theorem spec_l10Draw.ex (l : List Int) (p s : Int) (hp : 0 ≤ p) (h : l.length ≤ 1048576) : ∃ n tx txs fr hd p' s', spec_l10Draw.f l p s = some (n, tx, txs, fr, hd, p', s') ∧ 0 ≤ p' ∧ (1 ≤ n ∧ n ≤ 10) ∧ (0 ≤ tx ∧ tx ≤ 40) ∧ (0 ≤ txs ∧ txs ≤ 8) ∧ (60 ≤ fr ∧ fr ≤ 4000) ∧ (3 ≤ hd ∧ hd ≤ 5) := by
  unfold spec_l10Draw.f
  obtain ⟨n, p1, s1, e1, hp1, h1⟩ := spec_l01Pick.ex l p s ([1, 3, 4, 4, 7, 9, 10] : List Int) hp h (by decide)
  obtain ⟨tx, p2, s2, e2, hp2, h2⟩ := spec_l01Pick.ex l p1 s1 ([0, 4, 8, 40] : List Int) hp1 h (by decide)
  obtain ⟨txs, p3, s3, e3, hp3, h3⟩ := spec_l01Pick.ex l p2 s2 ([0, 3, 8] : List Int) hp2 h (by decide)
  obtain ⟨fr, p4, s4, e4, hp4, h4⟩ := spec_l01Pick.ex l p3 s3 ([4000, 4000, 300, 60] : List Int) hp3 h (by decide)
  obtain ⟨hd, p5, s5, e5, hp5, h5, _⟩ := spec_l01Below.ex l p4 s4 3 hp4 h
  have h5 := h5 (by decide)
  simp only [e1, e2, e3, e4, e5, Option.bind_some]
  simp only [List.mem_cons, List.not_mem_nil, or_false] at h1 h2 h3 h4
  refine ⟨_, _, _, _, _, _, _, rfl, hp5, ?_, ?_, ?_, ?_, ?_⟩
  · omega
  · omega
  · omega
  · omega
  · rw [w64 (by omega) (by omega)]
    omega

def rowDrawn (r : S74) : Prop := (1 ≤ r.f0 ∧ r.f0 ≤ 1099511627776) ∧ r.f1.length = 3 ∧ niceB r.f1
theorem spec_l21Draw.ex0 (l : List Int) (h : l.length ≤ 1048576) (n : Nat) (hn : n ≤ 10) : ∀ (d i : Nat) (p s : Int) (rows : List S74), i + d = n → rows.length = i → (∀ r ∈ rows, rowDrawn r) → 0 ≤ p → ∃ rows' p' s', Ev (fun k => spec_l21Draw.l0 k (n : Int) (i : Int) l p s rows) (rows', p', s') ∧ rows'.length = n ∧ (∀ r ∈ rows', rowDrawn r) ∧ 0 ≤ p'
  | 0, i, p, s, rows, hi, hr, ha, hp => by
    refine ⟨rows, p, s, ev_step ?_, by omega, ha, hp⟩
    simp only [spec_l21Draw.l0]
    exact ev_neg (by omega) (ev_some rfl)
  | d + 1, i, p, s, rows, hi, hr, ha, hp => by
    obtain ⟨b, p1, s1, e1, hp1, h1, _⟩ := spec_l01Below.ex l p s 9 hp h
    have h1 := h1 (by decide)
    obtain ⟨wt, p2, s2, e2, hp2, h2⟩ := spec_l01Pick.ex l p1 s1 ([1, 1, 1, 2, 5, 1099511627776, wrap64 (1 + b)] : List Int) hp1 h (by simp)
    obtain ⟨c, p3, s3, e3, hp3, h3, _⟩ := spec_l01Below.ex l p2 s2 9 hp2 h
    have h3 := h3 (by decide)
    have hw : 1 ≤ wt ∧ wt ≤ 1099511627776 := by
      rw [w64 (by omega) (by omega)] at h2
      simp only [List.mem_cons, List.not_mem_nil, or_false] at h2
      omega
    obtain ⟨rows', p', s', e, q1, q2, q3⟩ := spec_l21Draw.ex0 l h n hn d (i + 1) p3 s3 (rows ++ [⟨wt, [((i : Int)) % 256, c % 256, 1]⟩]) (by omega) (by simp; omega) (fun r hr' => by
      rcases List.mem_append.1 hr' with hr' | hr'
      · exact ha r hr'
      · rw [List.mem_singleton.1 hr']
        refine ⟨hw, rfl, by simp, fun x hx => ?_⟩
        simp only [List.mem_cons, List.not_mem_nil, or_false] at hx
        omega) hp3
    refine ⟨rows', p', s', ev_step ?_, q1, q2, q3⟩
    simp only [spec_l21Draw.l0, e1, e2, e3, Option.bind_some]
    refine ev_pos (by omega) (ev_pos (by omega) ?_)
    rw [w64s (by omega)]
    exact e
theorem spec_l21Draw.ex (l : List Int) (h : l.length ≤ 1048576) (p s : Int) (hp : 0 ≤ p) (n : Nat) (hn : n ≤ 10) : ∃ rows p' s', Ev (fun k => spec_l21Draw.f k l p s (n : Int)) (rows, p', s') ∧ rows.length = n ∧ (∀ r ∈ rows, rowDrawn r) ∧ 0 ≤ p' := by
  unfold spec_l21Draw.f
  exact spec_l21Draw.ex0 l h n hn n 0 p s [] (by omega) rfl (by simp) hp
theorem drawn_ok {rows : List S74} (h : ∀ r ∈ rows, rowDrawn r) (h1 : 1 ≤ rows.length) (h2 : rows.length ≤ 10) : tableOk rows = true := tableOk_iff.2 ⟨fun r hr => ⟨(h r hr).1, by have := (h r hr).2.1; omega⟩, h1, h2⟩
theorem drawn_nice {rows : List S74} (h : ∀ r ∈ rows, rowDrawn r) (h2 : rows.length ≤ 10) : nL74 rows := ⟨by omega, fun r hr => ⟨by have := (h r hr).1; unfold i64r; omega, (h r hr).2.2⟩⟩

theorem spec_l23Pair.ex (l : List Int) (h : l.length ≤ 1048576) (p s : Int) (hp : 0 ≤ p) : ∃ (n : Nat) (tx txs hd : Int) (rows : List S74) (p' s' : Int), Ev (fun k => spec_l23Pair.f k l p s) ((n : Int), tx, txs, 4000, hd, rows, p', s') ∧ (1 ≤ n ∧ n ≤ 5) ∧ (0 ≤ tx ∧ tx ≤ 40) ∧ (0 ≤ txs ∧ txs ≤ 8) ∧ (3 ≤ hd ∧ hd ≤ 5) ∧ rows.length = n ∧ (∀ r ∈ rows, rowDrawn r) ∧ 0 ≤ p' := by
  unfold spec_l23Pair.f
  obtain ⟨n0, tx, txs, fr, hd, p1, s1, e1, hp1, _, h2, h3, _, h5⟩ := spec_l10Draw.ex l p s hp h
  obtain ⟨b, p2, s2, e2, hp2, hb, _⟩ := spec_l01Below.ex l p1 s1 5 hp1 h
  have hb := hb (by decide)
  obtain ⟨m, rfl⟩ := Int.eq_ofNat_of_zero_le hb.1
  obtain ⟨rows, p3, s3, e3, q1, q2, q3⟩ := spec_l21Draw.ex l h p2 s2 hp2 (m + 1) (by omega)
  refine ⟨m + 1, tx, txs, hd, rows, p3, s3, ?_, by omega, h2, h3, h5, q1, q2, q3⟩
  have em : wrap64 (1 + (m : Int)) = ((m + 1 : Nat) : Int) := by rw [w64 (by omega) (by omega)]; omega
  simp only [e1, e2, Option.bind_some, em]
  exact Ev.bind e3 (ev_some rfl)

theorem spec_MakeTable.ex (l : List Int) (h : l.length ≤ 1048576) : ∃ (n : Nat) (tx txs hd : Int) (rows : List S74), Ev (fun k => spec_MakeTable.f k l) ((n : Int), tx, txs, 4000, hd, rows) ∧ (1 ≤ n ∧ n ≤ 5) ∧ (0 ≤ tx ∧ tx ≤ 40) ∧ (0 ≤ txs ∧ txs ≤ 8) ∧ (3 ≤ hd ∧ hd ≤ 5) ∧ rows.length = n ∧ (∀ r ∈ rows, rowDrawn r) := by
  unfold spec_MakeTable.f
  obtain ⟨s, e⟩ := spec_l01New.ex l h
  obtain ⟨n, tx, txs, hd, rows, p', s', e', h1, h2, h3, h4, h5, h6, _⟩ := spec_l23Pair.ex l h 0 s (by omega)
  exact ⟨n, tx, txs, hd, rows, Ev.bind e (Ev.bind e' (ev_some rfl)), h1, h2, h3, h4, h5, h6⟩

theorem impl_within.eq (a b c : Int) : impl_within.f a b c = some (decide (b ≤ a ∧ a ≤ c)) := by
  unfold impl_within.f
  split <;> simp [*]

theorem impl_TableOk.ev0 (l : List S74) (h : nL74 l) : ∀ (d n : Nat), n + d = l.length → Ev (fun k => impl_TableOk.l0 k l (l.length : Int) (n : Int) l) ((l.drop n).all (fun r => decide (1 ≤ r.f0 ∧ r.f0 ≤ 1099511627776) && decide (1 ≤ r.f1.length ∧ r.f1.length ≤ 64)) && decide (1 ≤ l.length ∧ l.length ≤ 10))
  | 0, n, hn => by
    have hl := h.1
    refine ev_step ?_
    simp only [impl_TableOk.l0, impl_within.eq, Option.bind_some]
    refine ev_neg (by omega) (ev_some ?_)
    rw [List.drop_of_length_le (by omega)]
    have e : (1 ≤ (l.length : Int) ∧ (l.length : Int) ≤ 10) ↔ (1 ≤ l.length ∧ l.length ≤ 10) := by omega
    simp [e]
  | d + 1, n, hn => by
    have hl := h.1
    have hlt : n < l.length := by omega
    have e : rd_T74 l (n : Int) = l[n] := getD_nat _ hlt
    refine ev_step ?_
    simp only [impl_TableOk.l0, impl_within.eq, Option.bind_some]
    refine ev_pos (by omega) (ev_pos (by omega) (ev_pos (by omega) ?_))
    rw [e, List.drop_eq_getElem_cons hlt]
    simp only [List.all_cons]
    refine ev_ite (fun c1 => ?_) (fun c1 => ev_some ?_)
    · refine ev_ite (fun c2 => ?_) (fun c2 => ev_some ?_)
      · rw [w64s (by omega)]
        refine ev_to (impl_TableOk.ev0 l h d (n + 1) (by omega)) ?_
        simp only [decide_eq_true_eq] at c1 c2
        have c3 : 1 ≤ (l[n]).f1.length ∧ (l[n]).f1.length ≤ 64 := by omega
        simp only [c1, c3, and_self, decide_true, Bool.true_and]
      · simp only [decide_eq_true_eq] at c2
        have c3 : ¬ (1 ≤ (l[n]).f1.length ∧ (l[n]).f1.length ≤ 64) := by omega
        simp only [c3, decide_false, Bool.and_false, Bool.false_and]
    · simp only [decide_eq_true_eq] at c1
      simp only [c1, decide_false, Bool.false_and]
theorem impl_TableOk.ev (l : List S74) (h : nL74 l) : Ev (fun k => impl_TableOk.f k l) (tableOk l) := by
  unfold impl_TableOk.f
  refine ev_to (impl_TableOk.ev0 l h l.length 0 (by omega)) ?_
  unfold tableOk
  rw [List.drop_zero]

theorem impl_BitsHas.eq (b : List Int) (h : niceB b) (i : Nat) (hi : i ≤ 4611686018427387904) : impl_BitsHas.f b (i : Int) = some (bitAt b i) := by
  have hl := h.1
  have e8 : Int.tdiv (i : Int) 8 = ((i / 8 : Nat) : Int) := tdiv_nat i 8
  have m8 : Int.tmod (i : Int) 8 = ((i % 8 : Nat) : Int) := tmod_nat i 8
  unfold impl_BitsHas.f
  rw [w64 (n := 8 * (b.length : Int)) (by omega) (by omega), w64 (by omega) (by omega), e8, m8, w64n (by omega)]
  simp only [impl_within.eq, Option.bind_some, decide_eq_true_eq]
  by_cases c : i < 8 * b.length
  · rw [if_pos (by omega), if_pos (by omega), if_pos (by omega), if_pos (by omega)]
    have q := rd_nice h ((i / 8 : Nat) : Int)
    have e : shr .u8 (rd b ((i / 8 : Nat) : Int)) ((i % 8 : Nat) : Int) = rd b ((i / 8 : Nat) : Int) / 2 ^ (i % 8) := by
      unfold shr
      rw [toNat_nat, Nat.min_eq_left (by show i % 8 ≤ 8; omega)]
    have d := div_pow_bd q.1 q.2 (i % 8)
    rw [e, u8_and1 d.1 d.2]
    rfl
  · rw [if_neg (by omega), bitAt_out (by omega)]
theorem impl_BitsHas.ev (b : List Int) (h : niceB b) (i : Nat) (hi : i ≤ 4611686018427387904) : Ev (fun k => impl_BitsHas.f b (i : Int)) (bitAt b i) := ev_eq (impl_BitsHas.eq b h i hi)

theorem impl_BitsList.ev0 (b : List Int) (h : niceB b) : ∀ (d n : Nat) (acc : List Int), n + d = 8 * b.length → acc.length ≤ n → Ev (fun k => impl_BitsList.l0 k b acc ((8 * b.length : Nat) : Int) (n : Int)) (acc ++ (bitsFrom b n d).map fun (n : Nat) => (n : Int))
  | 0, n, acc, hn, ha => by
    refine ev_step ?_
    simp only [impl_BitsList.l0]
    exact ev_neg (by omega) (ev_some (by simp [bitsFrom]))
  | d + 1, n, acc, hn, ha => by
    have hl := h.1
    refine ev_step ?_
    simp only [impl_BitsList.l0, impl_BitsHas.eq b h n (by omega), Option.bind_some]
    refine ev_pos (by omega) ?_
    rw [w64s (by omega)]
    unfold bitsFrom
    refine ev_ite (fun c => ?_) (fun c => ?_)
    · rw [if_pos c]
      refine ev_pos (by omega) (ev_to (impl_BitsList.ev0 b h d (n + 1) _ (by omega) (by simp; omega)) ?_)
      simp
    · rw [if_neg c]
      exact impl_BitsList.ev0 b h d (n + 1) acc (by omega) (by omega)
theorem impl_BitsList.ev (b : List Int) (h : niceB b) : Ev (fun k => impl_BitsList.f k b) (bitsList b) := by
  have hl := h.1
  unfold impl_BitsList.f
  rw [w64 (by omega) (by omega)]
  exact ev_to (impl_BitsList.ev0 b h (8 * b.length) 0 [] (by omega) (by simp)) (by simp [bitsList])

theorem impl_BitsSize.eq (n : Int) (h : i64r n) : impl_BitsSize.f n = some (bitsSize n) := by
  have h' : -9223372036854775808 ≤ n ∧ n ≤ 9223372036854775807 := h
  unfold impl_BitsSize.f bitsSize
  by_cases c : n < 1
  · rw [if_pos c, if_pos c]
  · rw [if_neg c, if_neg c, w64 (n := n - 1) (by omega) (by omega), Int.tdiv_eq_ediv_of_nonneg (by omega), w64 (n := (n - 1) / 8) (by omega) (by omega), w64 (by omega) (by omega)]
theorem impl_BitsSize.ev (n : Int) (h : i64r n) : Ev (fun k => impl_BitsSize.f n) (bitsSize n) := ev_eq (impl_BitsSize.eq n h)

theorem impl_BitsOk.ev0 (n : Int) (l : List Int) (hl : l.length ≤ 9223372036854775806) : ∀ (d i : Nat), i + d = l.length → Ev (fun k => impl_BitsOk.l0 k n l (l.length : Int) (i : Int)) ((l.drop i).all fun x => decide (x < n))
  | 0, i, hi => by
    refine ev_step ?_
    simp only [impl_BitsOk.l0]
    refine ev_neg (by omega) (ev_some ?_)
    rw [List.drop_of_length_le (by omega)]
    rfl
  | d + 1, i, hi => by
    have hlt : i < l.length := by omega
    refine ev_step ?_
    simp only [impl_BitsOk.l0]
    refine ev_pos (by omega) (ev_pos (by omega) (ev_pos (by omega) ?_))
    rw [w64s (by omega), rd_nat hlt, List.drop_eq_getElem_cons hlt, List.all_cons]
    refine ev_ite (fun c => ev_some ?_) (fun c => ev_to (impl_BitsOk.ev0 n l hl d (i + 1) (by omega)) ?_)
    · simp; omega
    · simp; omega
theorem impl_BitsOk.ev (b : List Int) (n : Int) (h : niceB b) (hn : i64r n) : Ev (fun k => impl_BitsOk.f k b n) (bitsOk b n) := by
  have hl := h.1
  have hL := bitsList_length b
  unfold impl_BitsOk.f bitsOk
  simp only [impl_within.eq, Option.bind_some, impl_BitsSize.eq n hn, decide_eq_true_eq]
  refine ev_ite (fun c => ?_) (fun c => ?_)
  · refine ev_step ?_
    simp only [impl_BitsOk.j0]
    refine ev_ite (fun e => ev_some ?_) (fun e => ?_)
    · simp at e
      simp [e]
    · simp at e
      refine Ev.bind (impl_BitsList.ev b h) (ev_to (impl_BitsOk.ev0 n _ (by omega) (bitsList b).length 0 (by omega)) ?_)
      simp [c, e]
  · refine ev_step ?_
    simp only [impl_BitsOk.j0]
    exact ev_pos trivial (ev_some (by simp [c]))

theorem impl_WeightOf.ev0 (l : List S74) (h : tableOk l = true) (x : List Nat) (hx : ∀ i ∈ x, i < l.length) (hxl : x.length ≤ 16) : ∀ (d n : Nat) (acc : Int), n + d = x.length → 0 ≤ acc → acc ≤ n * 1099511627776 → Ev (fun k => impl_WeightOf.l0 k acc (x.map fun (i : Nat) => (i : Int)) (x.length : Int) (n : Int) l) (acc + isum l (x.drop n)) := by
  intro d
  induction d with
  | zero =>
    intro n acc hn h0 h1
    refine ev_step ?_
    simp only [impl_WeightOf.l0]
    refine ev_neg (by omega) (ev_some ?_)
    rw [List.drop_of_length_le (by omega)]
    simp [isum]
  | succ d ih =>
    intro n acc hn h0 h1
    obtain ⟨hr, _, hl⟩ := tableOk_iff.1 h
    have hlt : n < x.length := by omega
    have hi := hx _ (List.getElem_mem hlt)
    have e0 : rd (x.map fun (i : Nat) => (i : Int)) (n : Int) = (x[n] : Int) := by rw [rd_nat (by simpa using hlt), List.getElem_map]
    have e : rd_T74 l (x[n] : Int) = l[x[n]] := getD_nat _ hi
    have bd := (hr _ (List.getElem_mem hi)).1
    refine ev_step ?_
    simp only [impl_WeightOf.l0, e0, List.length_map]
    refine ev_pos (by omega) (ev_pos (by omega) (ev_pos (by omega) (ev_pos (by omega) (ev_pos (by omega) ?_))))
    rw [e, w64s (by omega), w64 (by omega) (by omega)]
    refine ev_to (ih (n + 1) _ (by omega) (by omega) (by omega)) ?_
    rw [List.drop_eq_getElem_cons hlt, isum]
    simp [hi]
    omega
theorem impl_WeightOf.ev (l : List S74) (b : List Int) (h : nL74 l) (hb : niceB b) : Ev (fun k => impl_WeightOf.f k l b) (weightOf l b) := by
  have hl := h.1
  unfold impl_WeightOf.f weightOf
  refine Ev.bind (impl_TableOk.ev l h) ?_
  refine ev_ite (fun c => ?_) (fun c => ?_)
  · refine Ev.bind (impl_BitsOk.ev b _ hb (by unfold i64r; omega)) (ev_step ?_)
    simp only [impl_WeightOf.j0]
    refine ev_ite (fun e => ev_some ?_) (fun e => ?_)
    · simp at e
      rw [if_neg (by simp [e])]
    · simp at e
      rw [if_pos ⟨c, e⟩]
      refine Ev.bind (impl_BitsList.ev b hb) ?_
      have b2 := bitsOk_len e
      obtain ⟨_, _, b3⟩ := bitsOk_iff.1 e
      have bl := bitsFrom_length b (8 * b.length) 0
      have el : ((bitsList b).length : Int) = ((bitsFrom b 0 (8 * b.length)).length : Int) := by simp [bitsList]
      rw [el]
      refine ev_to (impl_WeightOf.ev0 l c (bitsFrom b 0 (8 * b.length)) (fun i hi => ?_) (by omega) (bitsFrom b 0 (8 * b.length)).length 0 0 (by omega) (by omega) (by omega)) ?_
      · have := b3 (i : Int) (List.mem_map.2 ⟨i, hi, rfl⟩)
        omega
      · rw [List.drop_zero, isum_bits b l _ 0 (fun j hj => bitsOk_bit e (by omega)) ?_, List.drop_zero]
        · omega
        · obtain ⟨b4, b5, _⟩ := bitsOk_iff.1 e
          unfold bitsSize at b5
          split at b5 <;> omega
  · refine ev_step ?_
    simp only [impl_WeightOf.j0]
    exact ev_pos trivial (ev_some (by rw [if_neg (by simp [c])]))

theorem impl_TotalOf.ev0 (l : List S74) (hN : nL74 l) (h : tableOk l = true) : ∀ (d n : Nat) (acc : Int), n + d = l.length → 0 ≤ acc → acc ≤ n * 1099511627776 → Ev (fun k => impl_TotalOf.l0 k acc l (l.length : Int) (n : Int) l) (acc + total (l.drop n)) := by
  intro d
  induction d with
  | zero =>
    intro n acc hn h0 h1
    refine ev_step ?_
    simp only [impl_TotalOf.l0]
    refine ev_neg (by omega) (ev_some ?_)
    rw [List.drop_of_length_le (by omega)]
    simp [total]
  | succ d ih =>
    intro n acc hn h0 h1
    obtain ⟨hr, _, hl⟩ := tableOk_iff.1 h
    have hlt : n < l.length := by omega
    have e : rd_T74 l (n : Int) = l[n] := getD_nat _ hlt
    have b := (hr _ (List.getElem_mem hlt)).1
    refine ev_step ?_
    simp only [impl_TotalOf.l0]
    refine ev_pos (by omega) (ev_pos (by omega) (ev_pos (by omega) (Ev.bind (impl_TableOk.ev l hN) (ev_pos h ?_))))
    rw [e, w64s (by omega), w64 (by omega) (by omega)]
    refine ev_to (ih (n + 1) _ (by omega) (by omega) (by omega)) ?_
    rw [List.drop_eq_getElem_cons hlt, total]
    omega
theorem impl_TotalOf.ev1 (l : List S74) (hN : nL74 l) (h : ¬tableOk l = true) : ∀ (d n : Nat) (acc : Int), n + d = l.length → Ev (fun k => impl_TotalOf.l0 k acc l (l.length : Int) (n : Int) l) acc
  | 0, n, acc, hn => by
    refine ev_step ?_
    simp only [impl_TotalOf.l0]
    exact ev_neg (by omega) (ev_some rfl)
  | d + 1, n, acc, hn => by
    have hl := hN.1
    refine ev_step ?_
    simp only [impl_TotalOf.l0]
    refine ev_pos (by omega) (ev_pos (by omega) (ev_pos (by omega) (Ev.bind (impl_TableOk.ev l hN) (ev_neg h ?_))))
    rw [w64s (by omega)]
    exact impl_TotalOf.ev1 l hN h d (n + 1) _ (by omega)
theorem impl_TotalOf.ev (l : List S74) (h : nL74 l) : Ev (fun k => impl_TotalOf.f k l) (totalOf l) := by
  unfold impl_TotalOf.f totalOf
  by_cases c : tableOk l = true
  · exact ev_to (impl_TotalOf.ev0 l h c l.length 0 0 (by omega) (by omega) (by omega)) (by rw [if_pos c, List.drop_zero]; omega)
  · exact ev_to (impl_TotalOf.ev1 l h c l.length 0 0 (by omega)) (by rw [if_neg c])

theorem impl_IsQuorum.ev (l : List S74) (b : List Int) (h : nL74 l) (hb : niceB b) : Ev (fun k => impl_IsQuorum.f k l b) (isQuorum l b) := by
  have w := weightOf_bd l b
  have t := totalOf_bd l
  unfold impl_IsQuorum.f isQuorum
  refine Ev.bind (impl_TableOk.ev l h) (ev_ite (fun c => ?_) (fun c => ev_some (by simp [c])))
  refine Ev.bind (impl_WeightOf.ev l b h hb) (Ev.bind (impl_TotalOf.ev l h) (ev_some ?_))
  rw [w64 (by omega) (by omega), w64 (by omega) (by omega), c, Bool.true_and]

theorem impl_BitsNew.eq (n : Nat) (h1 : 1 ≤ n) (h2 : n ≤ 10) : impl_BitsNew.f (n : Int) = some (List.replicate (bitsSize (n : Int)).toNat 0) := by
  have z := bitsSize_bd h1 h2
  unfold impl_BitsNew.f
  rw [impl_within.eq, Option.bind_some, if_pos (by simp; omega), impl_BitsSize.eq _ (by unfold i64r; omega), Option.bind_some]
  rw [if_pos (by omega), if_pos (by omega)]

def castL (own : List Nat) : List Int := own.map fun (n : Nat) => (n : Int)
theorem castL_rd {own : List Nat} {i : Nat} (h : i < own.length) : rd (castL own) (i : Int) = ((own[i] : Nat) : Int) := by
  rw [rd_nat (by simp [castL]; exact h)]
  simp [castL]
theorem castL_len (own : List Nat) : (castL own).length = own.length := by simp [castL]
theorem impl_BitsOf.ev0 (n : Nat) (h1 : 1 ≤ n) (h2 : n ≤ 10) (own : List Nat) (ho : ∀ i ∈ own, i < n) (hl : own.length ≤ 1000) : ∀ (d i : Nat) (b : List Int), i + d = own.length → (b.length : Int) = bitsSize (n : Int) → Ev (fun k => impl_BitsOf.l0 k (n : Int) b (castL own) (own.length : Int) (i : Int)) (setAll b (own.drop i), true) := by
  intro d
  induction d with
  | zero =>
    intro i b hi hb
    refine ev_step ?_
    simp only [impl_BitsOf.l0]
    refine ev_neg (by omega) (ev_some ?_)
    rw [List.drop_of_length_le (by omega)]
    rfl
  | succ d ih =>
    intro i b hi hb
    have z := bitsSize_bd h1 h2
    have hlt : i < own.length := by omega
    have hx := ho _ (List.getElem_mem hlt)
    have e8 : Int.tdiv ((own[i] : Nat) : Int) 8 = ((own[i] / 8 : Nat) : Int) := tdiv_nat _ 8
    have m8 : Int.tmod ((own[i] : Nat) : Int) 8 = ((own[i] % 8 : Nat) : Int) := tmod_nat _ 8
    have e := ih (i + 1) (bitSet .or b own[i]) (by omega) (by rw [bitSet_length]; exact hb)
    refine ev_step ?_
    simp only [impl_BitsOf.l0]
    rw [castL_rd hlt, castL_len]
    refine ev_pos (by omega) (ev_pos (by omega) (ev_pos (by omega) (ev_bind0 (impl_within.eq _ _ _) (ev_pos ?_ ?_))))
    · rw [w64 (by omega) (by omega)]
      exact decide_eq_true (by omega)
    rw [e8, m8, w64n (by omega), w64s (by omega), toNat_nat, shl1 (by omega)]
    refine ev_pos (by omega) (ev_pos (by omega) (ev_pos (by omega) ?_))
    rw [List.drop_eq_getElem_cons hlt]
    exact e
theorem impl_BitsOf.ev (n : Nat) (h1 : 1 ≤ n) (h2 : n ≤ 10) (own : List Nat) (ho : ∀ i ∈ own, i < n) (hl : own.length ≤ 1000) : Ev (fun k => impl_BitsOf.f k (castL own) (n : Int)) (bitsOf n own, true) := by
  have z := bitsSize_bd h1 h2
  have e := impl_BitsOf.ev0 n h1 h2 own ho hl own.length 0 (List.replicate (bitsSize (n : Int)).toNat 0) (by omega) (by rw [List.length_replicate]; omega)
  rw [List.drop_zero] at e
  unfold impl_BitsOf.f
  rw [castL_len]
  refine ev_bind0 (impl_within.eq _ _ _) (ev_pos (decide_eq_true (by omega)) (ev_bind0 (impl_BitsNew.eq n h1 h2) e))

/-- A longer list of signers, in order. -/
def Longer (n : Nat) (own : List Nat) (m : Nat) (tl : List Nat) : Prop := tl.length = m ∧ (own ++ tl).Pairwise (· < ·) ∧ ∀ i ∈ own ++ tl, i < n
theorem castL_snoc (own : List Nat) (i : Nat) : castL own ++ [(i : Int)] = castL (own ++ [i]) := by simp [castL]
def LeastR (l : List S74) (own : List Nat) (m : Nat) (r : List Int) : Prop := (r = [] ∧ ∀ tl, Longer l.length own m tl → isQuorum l (bitsOf l.length (own ++ tl)) = false) ∨ (∃ tl, Longer l.length own m tl ∧ r = bitsOf l.length (own ++ tl) ∧ isQuorum l r = true)
/-- What the loop over the next signer finds, from signer i on. -/
def LeastL (l : List S74) (own : List Nat) (m i : Nat) (r : List Int) : Prop := (r = [] ∧ ∀ c tl, i ≤ c → Longer l.length own (m + 1) (c :: tl) → isQuorum l (bitsOf l.length (own ++ c :: tl)) = false) ∨ (∃ c tl, i ≤ c ∧ Longer l.length own (m + 1) (c :: tl) ∧ r = bitsOf l.length (own ++ c :: tl) ∧ isQuorum l r = true)
theorem impl_leastOf.loop (l : List S74) (h1 : 1 ≤ l.length) (h2 : l.length ≤ 10) (m : Nat) (hm : m ≤ 20) (B : Nat) (hB : B ≤ 1000) (ih : ∀ own : List Nat, own.Pairwise (· < ·) → (∀ i ∈ own, i < l.length) → own.length ≤ B → ∃ r, Ev (fun k => impl_leastOf.f k l (castL own) (m : Int)) r ∧ LeastR l own m r)
    (own : List Nat) (hs : own.Pairwise (· < ·)) (hb : ∀ i ∈ own, i < l.length) (hl : own.length + 1 ≤ B) : ∀ (d i : Nat), i + d = l.length → (∀ x ∈ own, x < i) → ∃ r, Ev (fun k => impl_leastOf.l0 k (castL own) ((m + 1 : Nat) : Int) (i : Int) l) r ∧ LeastL l own m i r := by
  intro d
  induction d with
  | zero =>
    intro i hi hx
    refine ⟨[], ev_step ?_, .inl ⟨rfl, fun c tl hc ht => ?_⟩⟩
    · simp only [impl_leastOf.l0]
      exact ev_neg (by omega) (ev_some rfl)
    · have := ht.2.2 c (by simp)
      omega
  | succ d ihd =>
    intro i hi hx
    have hp : (own ++ [i]).Pairwise (· < ·) := by
      rw [List.pairwise_append]
      exact ⟨hs, by simp, fun a ha b hb => by rw [List.mem_singleton.1 hb]; exact hx a ha⟩
    have hq : ∀ x ∈ own ++ [i], x < l.length := fun x hx' => by
      rcases List.mem_append.1 hx' with h | h
      · exact hb x h
      · rw [List.mem_singleton.1 h]; omega
    obtain ⟨r1, e1, q1⟩ := ih (own ++ [i]) hp hq (by simp; omega)
    have ew : wrap64 (((m + 1 : Nat) : Int) - 1) = (m : Int) := by rw [w64 (by omega) (by omega)]; omega
    have cl := castL_len own
    rcases q1 with ⟨rfl, none⟩ | ⟨tl, ht, rfl, hq1⟩
    · obtain ⟨r2, e2, q2⟩ := ihd (i + 1) (by omega) (fun x hx' => by have := hx x hx'; omega)
      refine ⟨r2, ev_step ?_, ?_⟩
      · simp only [impl_leastOf.l0]
        refine ev_pos (by omega) (ev_bind0 rfl (ev_pos (by rw [List.length_nil]; omega) (ev_bind0 rfl (ev_bind0 rfl (ev_pos (by simp only [List.length_nil, List.length_append, List.nil_append, List.length_cons]; omega) ?_)))))
        rw [List.nil_append, castL_snoc, ew, w64s (by omega)]
        exact Ev.bind e1 (ev_pos rfl e2)
      · rcases q2 with ⟨rfl, none2⟩ | ⟨c, tl, hc, ht, hr, hqr⟩
        · refine .inl ⟨rfl, fun c tl hc ht => ?_⟩
          by_cases e : c = i
          · subst e
            have ea : own ++ c :: tl = own ++ [c] ++ tl := by simp
            rw [ea]
            exact none tl ⟨by have := ht.1; simp at this; omega, by rw [← ea]; exact ht.2.1, by rw [← ea]; exact ht.2.2⟩
          · exact none2 c tl (by omega) ht
        · exact .inr ⟨c, tl, by omega, ht, hr, hqr⟩
    · have ea : own ++ i :: tl = own ++ [i] ++ tl := by simp
      have sp := bitsOf_spec h1 h2 ht.2.2
      have z := bitsSize_bd h1 h2
      refine ⟨bitsOf l.length (own ++ [i] ++ tl), ev_step ?_, .inr ⟨i, tl, Nat.le_refl _, ⟨by have := ht.1; simp; omega, by rw [ea]; exact ht.2.1, by rw [ea]; exact ht.2.2⟩, by rw [ea], hq1⟩⟩
      simp only [impl_leastOf.l0]
      refine ev_pos (by omega) (ev_bind0 rfl (ev_pos (by rw [List.length_nil]; omega) (ev_bind0 rfl (ev_bind0 rfl (ev_pos (by simp only [List.length_nil, List.length_append, List.nil_append, List.length_cons]; omega) ?_)))))
      rw [List.nil_append, castL_snoc, ew, w64s (by omega)]
      exact Ev.bind e1 (ev_neg (by omega) (ev_some rfl))
theorem least_LR {l : List S74} {own : List Nat} {m i : Nat} {r : List Int} (hi : ∀ c tl, Longer l.length own (m + 1) (c :: tl) → i ≤ c) (q : LeastL l own m i r) : LeastR l own (m + 1) r := by
  rcases q with ⟨hr, none⟩ | ⟨c, tl, _, ht, hr, hq⟩
  · refine .inl ⟨hr, fun tl ht => ?_⟩
    match tl, ht with
    | [], ht => have := ht.1; simp at this
    | c :: tl, ht => exact none c tl (hi c tl ht) ht
  · exact .inr ⟨c :: tl, ht, hr, hq⟩
theorem impl_leastOf.ex (l : List S74) (h : nL74 l) (h1 : 1 ≤ l.length) (h2 : l.length ≤ 10) : ∀ (m : Nat), m ≤ 20 → ∀ own : List Nat, own.Pairwise (· < ·) → (∀ i ∈ own, i < l.length) → own.length + m ≤ 99 → ∃ r, Ev (fun k => impl_leastOf.f k l (castL own) (m : Int)) r ∧ LeastR l own m r := by
  intro m
  induction m with
  | zero =>
    intro hm own hs hb hl
    have sp := bitsOf_spec h1 h2 hb
    have eb := impl_BitsOf.ev l.length h1 h2 own hb (by omega)
    have eq := impl_IsQuorum.ev l (bitsOf l.length own) h sp.1
    cases c : isQuorum l (bitsOf l.length own) with
    | true =>
      refine ⟨bitsOf l.length own, ev_step ?_, .inr ⟨[], ⟨rfl, by simpa using hs, by simpa using hb⟩, by simp, c⟩⟩
      simp only [impl_leastOf.f]
      refine ev_pos rfl (Ev.bind eb (Ev.bind eq ?_))
      exact ev_pos c (ev_some rfl)
    | false =>
      refine ⟨[], ev_step ?_, .inl ⟨rfl, fun tl ht => ?_⟩⟩
      · simp only [impl_leastOf.f]
        refine ev_pos rfl (Ev.bind eb (Ev.bind eq ?_))
        exact ev_neg (by rw [c]; decide) (ev_some rfl)
      · have := List.eq_nil_of_length_eq_zero ht.1
        subst this
        simpa using c
  | succ m ih =>
    intro hm own hs hb hl
    have ih' : ∀ own' : List Nat, own'.Pairwise (· < ·) → (∀ i ∈ own', i < l.length) → own'.length ≤ own.length + 1 → ∃ r, Ev (fun k => impl_leastOf.f k l (castL own') (m : Int)) r ∧ LeastR l own' m r := fun own' a b c => ih (by omega) own' a b (by omega)
    by_cases c : own = []
    · subst c
      obtain ⟨r, e, q⟩ := impl_leastOf.loop l h1 h2 m (by omega) _ (by simp) ih' [] hs hb (Nat.le_refl _) l.length 0 (by omega) (by simp)
      refine ⟨r, ev_step ?_, least_LR (fun _ _ _ => Nat.zero_le _) q⟩
      simp only [impl_leastOf.f]
      refine ev_neg (by omega) (ev_neg (by rw [castL_len]; simp) (ev_step ?_))
      simp only [impl_leastOf.j0]
      exact e
    · obtain ⟨o, z, rfl⟩ : ∃ o z, own = o ++ [z] := ⟨own.dropLast, own.getLast c, (List.dropLast_concat_getLast c).symm⟩
      have hz := hb z (by simp)
      have ol : (o ++ [z]).length = o.length + 1 := by simp
      have lt : ∀ x ∈ o ++ [z], x < z + 1 := fun x hx => by
        rcases List.mem_append.1 hx with h | h
        · have := (List.pairwise_append.1 hs).2.2 x h z (by simp)
          omega
        · rw [List.mem_singleton.1 h]; omega
      obtain ⟨r, e, q⟩ := impl_leastOf.loop l h1 h2 m (by omega) _ (by omega) ih' (o ++ [z]) hs hb (Nat.le_refl _) (l.length - (z + 1)) (z + 1) (by omega) lt
      refine ⟨r, ev_step ?_, least_LR (fun c tl ht => (List.pairwise_append.1 ht.2.1).2.2 z (by simp) c (by simp)) q⟩
      have cl := castL_len (o ++ [z])
      have ez : rd (castL (o ++ [z])) (o.length : Int) = (z : Int) := by
        rw [castL_rd (by omega)]
        simp
      have ew : wrap64 (((castL (o ++ [z])).length : Int) - 1) = (o.length : Int) := by rw [w64 (by omega) (by omega)]; omega
      simp only [impl_leastOf.f]
      refine ev_neg (by omega) (ev_pos (by omega) ?_)
      rw [ew, ez, w64s (by omega)]
      refine ev_pos (by omega) (ev_pos (by omega) (ev_step ?_))
      simp only [impl_leastOf.j0]
      exact e

theorem quorum_bits {l : List S74} (T : tableOk l = true) {a b : List Int} (oa : bitsOk a (l.length : Int) = true) (ob : bitsOk b (l.length : Int) = true) (h : ∀ j, bitAt a j = bitAt b j) : isQuorum l a = isQuorum l b := by
  have e : ∀ (t : List S74) (i : Nat), wsum a i t = wsum b i t := by
    intro t
    induction t with
    | nil => intro i; rfl
    | cons r t ih => intro i; simp only [wsum, h, ih]
  unfold isQuorum weightOf
  rw [if_pos ⟨T, oa⟩, if_pos ⟨T, ob⟩, e]
/-- The least quorum, in order. -/
def LeastQ (l : List S74) (s : Nat) (ext : List Nat) : Prop := Longer l.length [] s ext ∧ isQuorum l (bitsOf l.length ext) = true ∧ ∀ s' tl, 1 ≤ s' → s' < s → Longer l.length [] s' tl → isQuorum l (bitsOf l.length tl) = false
theorem range_longer (n : Nat) : Longer n [] n (List.range n) := ⟨by simp, by simpa using List.pairwise_lt_range, fun i hi => by simpa using hi⟩
theorem full_quorum {l : List S74} (T : tableOk l = true) : isQuorum l (bitsOf l.length (List.range l.length)) = true := by
  obtain ⟨hr, h1, h2⟩ := tableOk_iff.1 T
  have hw : ∀ r ∈ l, 1 ≤ r.f0 ∧ r.f0 ≤ 1099511627776 := fun r hr' => (hr r hr').1
  obtain ⟨_, _, ob, hb⟩ := bitsOf_spec h1 h2 (own := List.range l.length) (fun i hi => by simpa using hi)
  have t1 : 0 < total l := by
    match l, h1, hw with
    | r :: t, _, hw =>
      have h1 := hw r (by simp)
      have h2 := (total_bd (l := t) (fun x hx => hw x (by simp [hx]))).1
      simp only [total]
      omega
  have e := wsum_full (b := bitsOf l.length (List.range l.length)) l 0 (fun j hj => by rw [hb]; exact decide_eq_true (List.mem_range.2 (by omega)))
  unfold isQuorum weightOf totalOf
  rw [if_pos ⟨T, ob⟩, if_pos T, e, T, Bool.true_and]
  exact decide_eq_true (by omega)
theorem impl_Least.ex0 (l : List S74) (h : nL74 l) (T : tableOk l = true) : ∀ (d s : Nat), s + d = l.length + 1 → 1 ≤ s → (∀ s' tl, 1 ≤ s' → s' < s → Longer l.length [] s' tl → isQuorum l (bitsOf l.length tl) = false) → ∃ s1 ext, Ev (fun k => impl_Least.l0 k (l.length : Int) (s : Int) l) (bitsOf l.length ext) ∧ LeastQ l s1 ext ∧ 1 ≤ s1 := by
  obtain ⟨_, h1, h2⟩ := tableOk_iff.1 T
  intro d
  induction d with
  | zero =>
    intro s hs _ hn
    have := hn l.length _ h1 (by omega) (range_longer _)
    rw [full_quorum T] at this
    cases this
  | succ d ih =>
    intro s hs h0 hn
    obtain ⟨r, e, q⟩ := impl_leastOf.ex l h h1 h2 s (by omega) [] List.Pairwise.nil (by simp) (by simp; omega)
    rcases q with ⟨rfl, none⟩ | ⟨tl, ht, rfl, hq⟩
    · obtain ⟨s1, ext, e1, q1⟩ := ih (s + 1) (by omega) (by omega) (fun s' tl a b ht => by
        by_cases c : s' = s
        · subst c; simpa using none tl ht
        · exact hn s' tl a (by omega) ht)
      refine ⟨s1, ext, ev_step ?_, q1⟩
      simp only [impl_Least.l0]
      refine ev_pos (by omega) (Ev.bind e (ev_pos rfl ?_))
      rw [w64s (by omega)]
      exact e1
    · rw [List.nil_append] at hq
      have sp := bitsOf_spec h1 h2 (own := tl) (fun i hi => ht.2.2 i (by simpa using hi))
      have z := bitsSize_bd h1 h2
      refine ⟨s, tl, ev_step ?_, ⟨ht, hq, hn⟩, h0⟩
      simp only [impl_Least.l0]
      rw [List.nil_append] at e
      exact ev_pos (by omega) (Ev.bind e (ev_neg (by omega) (ev_some rfl)))
theorem impl_Least.ex (l : List S74) (h : nL74 l) (T : tableOk l = true) : ∃ s ext, Ev (fun k => impl_Least.f k l) (bitsOf l.length ext) ∧ LeastQ l s ext ∧ 1 ≤ s := by
  obtain ⟨_, h1, h2⟩ := tableOk_iff.1 T
  obtain ⟨s, ext, e, q⟩ := impl_Least.ex0 l h T l.length 1 (by omega) (Nat.le_refl _) (fun s' tl a b => by omega)
  refine ⟨s, ext, ?_, q⟩
  unfold impl_Least.f
  exact Ev.bind (impl_TableOk.ev l h) (ev_pos T e)
theorem no_quorum {l : List S74} (T : tableOk l = true) : isQuorum l (bitsOf l.length []) = false := by
  obtain ⟨hr, h1, h2⟩ := tableOk_iff.1 T
  obtain ⟨_, _, ob, hb⟩ := bitsOf_spec h1 h2 (own := []) (by simp)
  have t0 := (total_bd (fun r hr' => (hr r hr').1)).1
  have e : ∀ (t : List S74) (i : Nat), wsum (bitsOf l.length []) i t = 0 := by
    intro t
    induction t with
    | nil => intro i; rfl
    | cons r t ih => intro i; simp [wsum, hb, ih]
  unfold isQuorum weightOf totalOf
  rw [if_pos ⟨T, ob⟩, if_pos T, e, T, Bool.true_and]
  exact decide_eq_false (by omega)

theorem impl_copyBytes.eq (l : List Int) (h : l.length ≤ 1073741824) : impl_copyBytes.f l = some l := by
  unfold impl_copyBytes.f
  simp only [Option.bind_some, List.nil_append, List.length_nil]
  rw [if_pos (by omega)]

theorem impl_BitsSet.off (b : List Int) (n i : Nat) (hb : niceB b) (ho : bitsOk b (n : Int) = true) (hi : i < n) : Ev (fun k => impl_BitsSet.f k b (n : Int) (i : Int) false) (bitSet .andNot b i, true) := by
  obtain ⟨⟨_, hn⟩, hs, _⟩ := bitsOk_iff.1 ho
  have hlen := hb.1
  have z := bitsSize_bd (n := n) (by omega) (by omega)
  have e8 : Int.tdiv (i : Int) 8 = ((i / 8 : Nat) : Int) := tdiv_nat i 8
  have m8 : Int.tmod (i : Int) 8 = ((i % 8 : Nat) : Int) := tmod_nat i 8
  have ec : impl_copyBytes.f b = some b := by rw [impl_copyBytes.eq _ (by omega)]
  unfold impl_BitsSet.f
  refine Ev.bind (impl_BitsOk.ev b _ hb (by unfold i64r; omega)) (ev_pos ho (ev_bind0 (impl_within.eq _ _ _) (ev_step ?_)))
  have hw : decide ((0 : Int) ≤ (i : Int) ∧ (i : Int) ≤ wrap64 ((n : Int) - 1)) = true := by
    rw [w64 (by omega) (by omega)]
    exact decide_eq_true (by omega)
  rw [hw]
  simp only [impl_BitsSet.j0]
  refine ev_neg (show ¬ ((!true) = true) by decide) (ev_bind0 ec ?_)
  rw [e8, m8, w64n (by omega), toNat_nat, shl1 (by omega)]
  refine ev_pos (by omega) (ev_pos (by omega) (ev_pos (by omega) (Ev.bind (Ev.now _) ?_)))
  exact ev_neg (show ¬ (false = true) by decide) (ev_some rfl)

theorem spec_BitsSize.eq (n : Int) (h : i64r n) : spec_BitsSize.f n = some (bitsSize n) := by
  have h' : -9223372036854775808 ≤ n ∧ n ≤ 9223372036854775807 := h
  unfold spec_BitsSize.f bitsSize
  by_cases c : n < 1
  · rw [if_pos c, if_pos c]
  · rw [if_neg c, if_neg c, w64 (n := n - 1) (by omega) (by omega), Int.tdiv_eq_ediv_of_nonneg (by omega), w64 (n := (n - 1) / 8) (by omega) (by omega), w64 (by omega) (by omega)]
theorem spec_BitsSize.ev (n : Int) (h : i64r n) : Ev (fun k => spec_BitsSize.f n) (bitsSize n) := ev_eq (spec_BitsSize.eq n h)

theorem spec_l01In.eq (a b c : Int) : spec_l01In.f a b c = some (decide (b ≤ a ∧ a ≤ c)) := by
  unfold spec_l01In.f
  split <;> simp_all <;> omega

theorem spec_l02Signers.eq (a : Int) : spec_l02Signers.f a = some (decide (1 ≤ a ∧ a ≤ 10)) := by
  unfold spec_l02Signers.f
  rw [spec_l01In.eq]
  rfl

theorem spec_BitsNew.eq (n : Nat) (h1 : 1 ≤ n) (h2 : n ≤ 10) : spec_BitsNew.f (n : Int) = some (List.replicate (bitsSize (n : Int)).toNat 0) := by
  unfold spec_BitsNew.f
  rw [spec_l02Signers.eq, Option.bind_some, if_pos (by simp; omega), spec_BitsSize.eq _ (by unfold i64r; omega), Option.bind_some]
  have : 0 ≤ bitsSize (n : Int) ∧ bitsSize (n : Int) ≤ 2 := by unfold bitsSize; split <;> omega
  rw [if_pos this.1, if_pos (by omega)]

theorem spec_l01Once.ex (l : List Int) (p s n : Int) (hp : 0 ≤ p) (h : l.length ≤ 1048576) : ∃ b p' s', spec_l01Once.f l p s n = some (b, p', s') ∧ 0 ≤ p' := by
  unfold spec_l01Once.f
  obtain ⟨b, p1, s1, e, hp1, _⟩ := spec_l01Below.ex l p s n hp h
  rw [e]
  exact ⟨_, _, _, rfl, hp1⟩

theorem spec_l02Draw.ex0 (l : List Int) (h : l.length ≤ 1048576) (n : Nat) (hn : n ≤ 10) : ∀ (d i : Nat) (p s : Int) (b : List Int), i + d = n → (b.length : Int) = bitsSize (n : Int) → niceB b → (∀ j, bitAt b j = true → j < n) → 0 ≤ p → ∃ b' p' s', Ev (fun k => spec_l02Draw.l0 k (n : Int) b (i : Int) l p s) (b', p', s') ∧ (b'.length : Int) = bitsSize (n : Int) ∧ niceB b' ∧ (∀ j, bitAt b' j = true → j < n) := by
  intro d
  induction d with
  | zero =>
    intro i p s b hi hl hb ha hp
    refine ⟨b, p, s, ev_step ?_, hl, hb, ha⟩
    simp only [spec_l02Draw.l0]
    exact ev_neg (by omega) (ev_some rfl)
  | succ d ih =>
    intro i p s b hi hl hb ha hp
    obtain ⟨q, p1, s1, e1, hp1⟩ := spec_l01Once.ex l p s 3 hp h
    have hlen : i / 8 < b.length := by
      have : bitsSize (n : Int) = ((n : Int) - 1) / 8 + 1 := by unfold bitsSize; rw [if_neg (by omega)]
      omega
    cases q with
    | true =>
      obtain ⟨b', p', s', e, r⟩ := ih (i + 1) p1 s1 b (by omega) hl hb ha hp1
      refine ⟨b', p', s', ev_step ?_, r⟩
      simp only [spec_l02Draw.l0, e1, Option.bind_some]
      refine ev_pos (by omega) (ev_pos trivial ?_)
      rw [w64s (by omega)]
      exact e
    | false =>
      have e8 : Int.tdiv (i : Int) 8 = ((i / 8 : Nat) : Int) := tdiv_nat i 8
      have m8 : Int.tmod (i : Int) 8 = ((i % 8 : Nat) : Int) := tmod_nat i 8
      obtain ⟨b', p', s', e, r⟩ := ih (i + 1) p1 s1 (bitSet .or b i) (by omega) (by rw [bitSet_length]; exact hl) (bitSet_nice hb i) (fun j hj => by
        rw [bitSet_bit hb (by omega) (by intro p; simp [bitOp])] at hj
        by_cases c : j = i
        · omega
        · rw [if_neg c] at hj
          exact ha j hj) hp1
      refine ⟨b', p', s', ev_step ?_, r⟩
      simp only [spec_l02Draw.l0]
      rw [e1]
      refine ev_pos (by omega) (Ev.bind (Ev.now _) ?_)
      refine ev_neg (show ¬ (false = true) by decide) ?_
      rw [e8, m8, w64n (by omega), w64s (by omega), toNat_nat, shl1 (by omega)]
      exact ev_pos (by omega) (ev_pos (by omega) (ev_pos (by omega) e))
theorem spec_l02Draw.ex (l : List Int) (h : l.length ≤ 1048576) (p s : Int) (hp : 0 ≤ p) (n : Nat) (h1 : 1 ≤ n) (hn : n ≤ 10) : ∃ b p' s', Ev (fun k => spec_l02Draw.f k l p s (n : Int)) (b, p', s') ∧ niceB b ∧ bitsOk b (n : Int) = true := by
  have z := spec_BitsNew.eq n h1 hn
  have hs : 0 ≤ bitsSize (n : Int) ∧ bitsSize (n : Int) ≤ 2 := by unfold bitsSize; split <;> omega
  obtain ⟨b, p', s', e, q1, q2, q3⟩ := spec_l02Draw.ex0 l h n hn n 0 p s (List.replicate (bitsSize (n : Int)).toNat 0) (by omega) (by rw [List.length_replicate]; omega) ⟨by rw [List.length_replicate]; omega, fun x hx => by rw [List.eq_of_mem_replicate hx]; omega⟩ (fun j hj => by rw [bitAt_zero] at hj; cases hj) hp
  refine ⟨b, p', s', ?_, q2, bitsOk_of (by omega) (by omega) q1 q3⟩
  unfold spec_l02Draw.f
  exact ev_bind0 z e

theorem spec_MakeBits.ex (l : List Int) (h : l.length ≤ 1048576) (n : Nat) (h1 : 1 ≤ n) (hn : n ≤ 10) (c : Int) (hc : 0 ≤ c) (hc' : c ≤ 1000) : ∃ b, Ev (fun k => spec_MakeBits.f k l (n : Int) c) b ∧ niceB b ∧ bitsOk b (n : Int) = true := by
  unfold spec_MakeBits.f
  obtain ⟨s, e⟩ := spec_l01New.ex l h
  obtain ⟨b, p', s', e', q1, q2⟩ := spec_l02Draw.ex l h 0 (wrap64 ((wrap64 (s + (wrap64 (100 * c)))) + 3)) (by omega) n h1 hn
  exact ⟨b, Ev.bind e (Ev.bind e' (ev_some rfl)), q1, q2⟩

theorem bits_OnesCount8.all : ∀ n : Fin 256, bits_OnesCount8.f ((n.val : Nat) : Int) = some ((pop8 n.val : Nat) : Int) := by decide +kernel
theorem bits_OnesCount8.eq {x : Int} (h0 : 0 ≤ x) (h1 : x < 256) : bits_OnesCount8.f x = some ((pop8 x.toNat : Nat) : Int) := by
  have := bits_OnesCount8.all ⟨x.toNat, by omega⟩
  have e : ((x.toNat : Nat) : Int) = x := by omega
  simpa only [e] using this
theorem pop8_le (n : Nat) : pop8 n ≤ 8 := by
  unfold pop8
  exact Nat.le_trans (List.length_filter_le _ _) (by simp)

theorem impl_BitsCount.ev0 (b : List Int) (hb : niceB b) : ∀ (d i : Nat), i + d = b.length → Ev (fun k => impl_BitsCount.l0 k (((bitsFrom b 0 (8 * i)).length : Nat) : Int) b (b.length : Int) (i : Int)) ((bitCount b : Nat) : Int) := by
  intro d
  have hlen := hb.1
  induction d with
  | zero =>
    intro i hi
    refine ev_step ?_
    simp only [impl_BitsCount.l0]
    refine ev_neg (by omega) (ev_some ?_)
    unfold bitCount
    rw [show i = b.length by omega]
  | succ d ih =>
    intro i hi
    have hlt : i < b.length := by omega
    have e := ih (i + 1) (by omega)
    have hx := hb.2 _ (List.getElem_mem hlt)
    have q := bitsFrom_length b (8 * i) 0
    have q8 := pop8_le (b[i]).toNat
    have es : (bitsFrom b 0 (8 * (i + 1))).length = (bitsFrom b 0 (8 * i)).length + pop8 (b[i]).toNat := by
      rw [show 8 * (i + 1) = 8 * i + 8 by omega, bitsFrom_split, List.length_append, Nat.zero_add, pop_byte hb hlt]
    rw [es] at e
    refine ev_step ?_
    simp only [impl_BitsCount.l0]
    refine ev_pos (by omega) (ev_pos (by omega) (ev_pos (by omega) ?_))
    rw [rd_nat hlt]
    refine ev_bind0 (bits_OnesCount8.eq hx.1 hx.2) ?_
    rw [w64s (by omega), w64 (by omega) (by omega)]
    exact e
theorem impl_BitsCount.ev (b : List Int) (hb : niceB b) : Ev (fun k => impl_BitsCount.f k b) ((bitCount b : Nat) : Int) := by
  unfold impl_BitsCount.f
  exact impl_BitsCount.ev0 b hb b.length 0 (by omega)

end Go.Proofs.Ytnkkdiiheannaaa.PFnLeast
