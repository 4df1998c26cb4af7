/- What the printed functions of FnQuorum come to, in plain terms. No condition beside those that each lemma names. -/
import Derived.Test.YtedebnlmjoljoaaFFnQuorumx0
import Derived.Test.YtedebnlmjoljoaaFFnQuorumx1
import Derived.Test.YtedebnlmjoljoaaFFnQuorumx2
import Derived.Test.YtedebnlmjoljoaaFFnQuorumx3
import Derived.Test.YtedebnlmjoljoaaFFnQuorumx4
import Derived.Test.YtedebnlmjoljoaaFFnQuorumx5
import Derived.Test.YtedebnlmjoljoaaFFnQuorumx6
import Derived.Test.YtedebnlmjoljoaaFFnQuorumx7
import Derived.Test.YtedebnlmjoljoaaFFnQuorumx8
import Derived.Test.YtedebnlmjoljoaaBits
import Derived.Test.YtedebnlmjoljoaaCrc
import Derived.Test.YtedebnlmjoljoaaEv
import Derived.Test.YtedebnlmjoljoaaRd
namespace Go.Proofs.Ytedebnlmjoljoaa.PFnQuorum
open Go.RowKit Go.Proofs.YtedebnlmjoljoaaW.PrintWords Go.Proofs.YtedebnlmjoljoaaW.PrintLast Go.Proofs.YtedebnlmjoljoaaR
set_option linter.unusedVariables false
set_option linter.unusedSimpArgs false

def fit44 (x : S44) : Prop := ((x).f1.length ≤ 9223372036854775807)
def ok44 (x : S44) : Prop := okB (x).f1
def nice44 (x : S44) : Prop := i64r (x).f0 ∧ niceB (x).f1
def nL44 (l : List S44) : Prop := l.length ≤ 1048576 ∧ ∀ y ∈ l, nice44 y
theorem nice44_ok {x : S44} (h : nice44 x) : ok44 x := by
  obtain ⟨n0, n1⟩ := h; exact (niceB_ok n1)

/-- A table that is valid, told of its rows. -/
def tableOk (l : List S44) : Bool := l.all (fun r => decide (1 ≤ r.f0 ∧ r.f0 ≤ 1099511627776) && decide (1 ≤ r.f1.length ∧ r.f1.length ≤ 64)) && decide (1 ≤ l.length ∧ l.length ≤ 10)
theorem tableOk_iff {l : List S44} : tableOk l = true ↔ (∀ r ∈ l, (1 ≤ r.f0 ∧ r.f0 ≤ 1099511627776) ∧ 1 ≤ r.f1.length ∧ r.f1.length ≤ 64) ∧ 1 ≤ l.length ∧ l.length ≤ 10 := by
  simp [tableOk]
/-- The sum of the weights. -/
def total : List S44 → Int
  | [] => 0
  | r :: t => r.f0 + total t
/-- The weight of those whose bit, from i on, is set. -/
def wsum (b : List Int) : Nat → List S44 → Int
  | _, [] => 0
  | i, r :: t => (if bitAt b i = true then r.f0 else 0) + wsum b (i + 1) t
def totalOf (l : List S44) : Int := if tableOk l = true then total l else 0
def weightOf (l : List S44) (b : List Int) : Int := if tableOk l = true ∧ bitsOk b (l.length : Int) = true then wsum b 0 l else 0
theorem total_bd {l : List S44} (h : ∀ r ∈ l, 1 ≤ r.f0 ∧ r.f0 ≤ 1099511627776) : 0 ≤ total l ∧ total l ≤ l.length * 1099511627776 := by
  induction l with
  | nil => simp [total]
  | cons r t ih =>
    have h0 := h r (by simp)
    have := ih (fun x hx => h x (by simp [hx]))
    simp only [total, List.length_cons]
    omega
theorem wsum_bd {b : List Int} {l : List S44} (h : ∀ r ∈ l, 1 ≤ r.f0 ∧ r.f0 ≤ 1099511627776) : ∀ i, 0 ≤ wsum b i l ∧ wsum b i l ≤ total l := by
  induction l with
  | nil => intro i; simp [wsum, total]
  | cons r t ih =>
    intro i
    have h0 := h r (by simp)
    have := ih (fun x hx => h x (by simp [hx])) (i + 1)
    simp only [total, wsum]
    split <;> omega
/-- The weights at the places of a list. -/
def isum (l : List S44) : List Nat → Int
  | [] => 0
  | i :: t => (l.getD i z44).f0 + isum l t
theorem isum_bits (b : List Int) (l : List S44) : ∀ (m i : Nat), (∀ j, l.length ≤ j → bitAt b j = false) → l.length ≤ i + m → isum l (bitsFrom b i m) = wsum b i (l.drop i)
  | 0, i, h, hm => by rw [List.drop_of_length_le (by omega)]; rfl
  | m + 1, i, h, hm => by
    have ih := isum_bits b l m (i + 1) h (by omega)
    by_cases c : i < l.length
    · rw [List.drop_eq_getElem_cons c]
      unfold bitsFrom wsum
      split
      · simp [isum, ih, c]
      · simp [ih]
    · have z := h i (by omega)
      unfold bitsFrom
      rw [List.drop_of_length_le (by omega)] at ih ⊢
      rw [if_neg (by rw [z]; simp), ih]
      rfl
def rowSame (a b : List S44) (i : Nat) : Bool := decide ((a.getD i z44).f0 = (b.getD i z44).f0) && sameB (a.getD i z44).f1 (b.getD i z44).f1
def tableSame (a b : List S44) : Bool := decide (a.length = b.length) && allFrom (rowSame a b) 0 a.length
theorem totalOf_bd (l : List S44) : 0 ≤ totalOf l ∧ totalOf l ≤ 10995116277760 := by
  unfold totalOf
  split
  · rename_i h
    obtain ⟨h1, _, h2⟩ := tableOk_iff.1 h
    have := total_bd (fun r hr => (h1 r hr).1)
    omega
  · omega
theorem weightOf_bd (l : List S44) (b : List Int) : 0 ≤ weightOf l b ∧ weightOf l b ≤ totalOf l := by
  have := totalOf_bd l
  unfold weightOf
  split
  · rename_i h
    obtain ⟨h1, _, h2⟩ := tableOk_iff.1 h.1
    have := wsum_bd (b := b) (fun r hr => (h1 r hr).1) 0
    unfold totalOf
    rw [if_pos h.1]
    exact this
  · omega
def isQuorum (l : List S44) (b : List Int) : Bool := tableOk l && decide (3 * weightOf l b > 2 * totalOf l)
def isFew (l : List S44) (b : List Int) : Bool := tableOk l && (bitsOk b (l.length : Int) && decide (3 * weightOf l b < totalOf l))
theorem wsum_both {a b o n : List Int} (ho : ∀ j, bitAt o j = (bitAt a j || bitAt b j)) (hn : ∀ j, bitAt n j = (bitAt a j && bitAt b j)) (l : List S44) : ∀ i, wsum a i l + wsum b i l = wsum o i l + wsum n i l := by
  induction l with
  | nil => intro i; simp [wsum]
  | cons r t ih =>
    intro i
    have := ih (i + 1)
    simp only [wsum, ho, hn]
    cases bitAt a i <;> cases bitAt b i <;> simp <;> omega
theorem wsum_full {b : List Int} (l : List S44) : ∀ i, (∀ j, j < i + l.length → bitAt b j = true) → wsum b i l = total l := by
  induction l with
  | nil => intro i _; rfl
  | cons r t ih =>
    intro i h
    have := ih (i + 1) (fun j hj => h j (by simp only [List.length_cons]; omega))
    simp only [wsum, total]
    rw [if_pos (h i (by simp only [List.length_cons]; omega)), this]
theorem wsum_mono {a b : List Int} (h : ∀ j, bitAt a j = true → bitAt b j = true) {l : List S44} (hw : ∀ r ∈ l, 1 ≤ r.f0 ∧ r.f0 ≤ 1099511627776) : ∀ i, wsum a i l ≤ wsum b i l := by
  induction l with
  | nil => intro i; simp [wsum]
  | cons r t ih =>
    intro i
    have h0 := hw r (by simp)
    have := ih (fun x hx => hw x (by simp [hx])) (i + 1)
    simp only [wsum]
    split
    · rename_i c
      rw [if_pos (h i c)]
      omega
    · split <;> omega

theorem spec_l01New.ex0 (l : List Int) (h : l.length ≤ 1048576) : ∀ (d n : Nat) (s : Int), n + d = l.length → ∃ s', Ev (fun k => spec_l01New.l0 k l s (n : Int)) (l, 0, s')
  | 0, n, s, hn => by
    refine ⟨s, ev_step ?_⟩
    simp only [spec_l01New.l0]
    exact ev_neg (by omega) (ev_some rfl)
  | d + 1, n, s, hn => by
    by_cases c : n < 4000
    · obtain ⟨s', e⟩ := spec_l01New.ex0 l h d (n + 1) (Go.bits .and .i64 (wrap64 ((wrap64 ((wrap64 (s * 37)) + (wrap64 (rd l (n : Int))))) + 7)) 1073741823) (by omega)
      refine ⟨s', ev_step ?_⟩
      simp only [spec_l01New.l0]
      refine ev_pos (by omega) (ev_pos (by omega) (ev_pos (by omega) ?_))
      rw [w64s (by omega)]
      exact e
    · refine ⟨s, ev_step ?_⟩
      simp only [spec_l01New.l0]
      exact ev_pos (by omega) (ev_neg (by omega) (ev_some rfl))
theorem spec_l01New.ex (l : List Int) (h : l.length ≤ 1048576) : ∃ s, Ev (fun k => spec_l01New.f k l) (l, 0, s) := by
  unfold spec_l01New.f
  exact spec_l01New.ex0 l h l.length 0 _ (by omega)

theorem spec_l01Byte.ex (l : List Int) (p s : Int) (hp : 0 ≤ p) (h : l.length ≤ 1048576) : ∃ b p' s', spec_l01Byte.f l p s = some (b, p', s') ∧ 0 ≤ b ∧ b ≤ 255 ∧ 0 ≤ p' := by
  unfold spec_l01Byte.f
  by_cases c : p < (l.length : Int)
  · rw [if_pos c, if_pos hp]
    exact ⟨_, _, _, rfl, (and255 _).1, (and255 _).2, by rw [w64 (by omega) (by omega)]; omega⟩
  · rw [if_neg c]
    exact ⟨_, _, _, rfl, (and255 _).1, (and255 _).2, hp⟩

theorem spec_l01Below.ex (l : List Int) (p s n : Int) (hp : 0 ≤ p) (h : l.length ≤ 1048576) : ∃ b p' s', spec_l01Below.f l p s n = some (b, p', s') ∧ 0 ≤ p' ∧ (0 < n → 0 ≤ b ∧ b < n) ∧ (n ≤ 0 → b = 0) := by
  unfold spec_l01Below.f
  by_cases c : n ≤ 0
  · rw [if_pos c]
    exact ⟨0, p, s, rfl, hp, by omega, fun _ => rfl⟩
  · rw [if_neg c]
    by_cases d : n ≤ 256
    · rw [if_pos d]
      obtain ⟨b, p1, s1, e, b0, b1, hp1⟩ := spec_l01Byte.ex l p s hp h
      rw [e]
      simp only [Option.bind_some]
      rw [if_neg (by omega)]
      exact ⟨_, _, _, rfl, hp1, fun hn => ⟨Int.tmod_nonneg _ b0, Int.tmod_lt_of_pos _ hn⟩, by omega⟩
    · rw [if_neg d]
      obtain ⟨b1, p1, s1, e1, b10, b11, hp1⟩ := spec_l01Byte.ex l p s hp h
      obtain ⟨b2, p2, s2, e2, b20, b21, hp2⟩ := spec_l01Byte.ex l p1 s1 hp1 h
      obtain ⟨b3, p3, s3, e3, b30, b31, hp3⟩ := spec_l01Byte.ex l p2 s2 hp2 h
      obtain ⟨b4, p4, s4, e4, b40, b41, hp4⟩ := spec_l01Byte.ex l p3 s3 hp3 h
      simp only [e1, e2, e3, e4, Option.bind_some]
      rw [if_neg (by omega)]
      refine ⟨_, _, _, rfl, hp4, fun hn => ⟨Int.tmod_nonneg _ ?_, Int.tmod_lt_of_pos _ hn⟩, by omega⟩
      rw [w64 (n := b1 * 16777216) (by omega) (by omega), w64 (n := b2 * 65536) (by omega) (by omega), w64 (n := b3 * 256) (by omega) (by omega), w64 (n := b1 * 16777216 + b2 * 65536) (by omega) (by omega), w64 (n := b1 * 16777216 + b2 * 65536 + b3 * 256) (by omega) (by omega), w64 (by omega) (by omega)]
      omega

theorem spec_l01Pick.ex (l : List Int) (p s : Int) (xs : List Int) (hp : 0 ≤ p) (h : l.length ≤ 1048576) (hx : 0 < xs.length) : ∃ b p' s', spec_l01Pick.f l p s xs = some (b, p', s') ∧ 0 ≤ p' ∧ b ∈ xs := by
  unfold spec_l01Pick.f
  obtain ⟨b, p1, s1, e, hp1, hb, _⟩ := spec_l01Below.ex l p s (xs.length : Int) hp h
  obtain ⟨b0, b1⟩ := hb (by omega)
  rw [e]
  simp only [Option.bind_some]
  rw [if_pos b0, if_pos b1]
  refine ⟨_, _, _, rfl, hp1, ?_⟩
  obtain ⟨m, rfl⟩ := Int.eq_ofNat_of_zero_le b0
  rw [rd_nat (by omega)]
  exact List.getElem_mem _

theorem spec_l10Draw.ex (l : List Int) (p s : Int) (hp : 0 ≤ p) (h : l.length ≤ 1048576) : ∃ n tx txs fr hd p' s', spec_l10Draw.f l p s = some (n, tx, txs, fr, hd, p', s') ∧ 0 ≤ p' ∧ (1 ≤ n ∧ n ≤ 10) ∧ (0 ≤ tx ∧ tx ≤ 40) ∧ (0 ≤ txs ∧ txs ≤ 8) ∧ (60 ≤ fr ∧ fr ≤ 4000) ∧ (3 ≤ hd ∧ hd ≤ 5) := by
  unfold spec_l10Draw.f
  obtain ⟨n, p1, s1, e1, hp1, h1⟩ := spec_l01Pick.ex l p s ([1, 3, 4, 4, 7, 9, 10] : List Int) hp h (by decide)
  obtain ⟨tx, p2, s2, e2, hp2, h2⟩ := spec_l01Pick.ex l p1 s1 ([0, 4, 8, 40] : List Int) hp1 h (by decide)
  obtain ⟨txs, p3, s3, e3, hp3, h3⟩ := spec_l01Pick.ex l p2 s2 ([0, 3, 8] : List Int) hp2 h (by decide)
  obtain ⟨fr, p4, s4, e4, hp4, h4⟩ := spec_l01Pick.ex l p3 s3 ([4000, 4000, 300, 60] : List Int) hp3 h (by decide)
  obtain ⟨hd, p5, s5, e5, hp5, h5, _⟩ := spec_l01Below.ex l p4 s4 3 hp4 h
  have h5 := h5 (by decide)
  simp only [e1, e2, e3, e4, e5, Option.bind_some]
  simp only [List.mem_cons, List.not_mem_nil, or_false] at h1 h2 h3 h4
  refine ⟨_, _, _, _, _, _, _, rfl, hp5, ?_, ?_, ?_, ?_, ?_⟩
  · omega
  · omega
  · omega
  · omega
  · rw [w64 (by omega) (by omega)]
    omega

def rowDrawn (r : S44) : Prop := (1 ≤ r.f0 ∧ r.f0 ≤ 1099511627776) ∧ r.f1.length = 3 ∧ niceB r.f1
theorem spec_l21Draw.ex0 (l : List Int) (h : l.length ≤ 1048576) (n : Nat) (hn : n ≤ 10) : ∀ (d i : Nat) (p s : Int) (rows : List S44), i + d = n → rows.length = i → (∀ r ∈ rows, rowDrawn r) → 0 ≤ p → ∃ rows' p' s', Ev (fun k => spec_l21Draw.l0 k (n : Int) (i : Int) l p s rows) (rows', p', s') ∧ rows'.length = n ∧ (∀ r ∈ rows', rowDrawn r) ∧ 0 ≤ p'
  | 0, i, p, s, rows, hi, hr, ha, hp => by
    refine ⟨rows, p, s, ev_step ?_, by omega, ha, hp⟩
    simp only [spec_l21Draw.l0]
    exact ev_neg (by omega) (ev_some rfl)
  | d + 1, i, p, s, rows, hi, hr, ha, hp => by
    obtain ⟨b, p1, s1, e1, hp1, h1, _⟩ := spec_l01Below.ex l p s 9 hp h
    have h1 := h1 (by decide)
    obtain ⟨wt, p2, s2, e2, hp2, h2⟩ := spec_l01Pick.ex l p1 s1 ([1, 1, 1, 2, 5, 1099511627776, wrap64 (1 + b)] : List Int) hp1 h (by simp)
    obtain ⟨c, p3, s3, e3, hp3, h3, _⟩ := spec_l01Below.ex l p2 s2 9 hp2 h
    have h3 := h3 (by decide)
    have hw : 1 ≤ wt ∧ wt ≤ 1099511627776 := by
      rw [w64 (by omega) (by omega)] at h2
      simp only [List.mem_cons, List.not_mem_nil, or_false] at h2
      omega
    obtain ⟨rows', p', s', e, q1, q2, q3⟩ := spec_l21Draw.ex0 l h n hn d (i + 1) p3 s3 (rows ++ [⟨wt, [((i : Int)) % 256, c % 256, 1]⟩]) (by omega) (by simp; omega) (fun r hr' => by
      rcases List.mem_append.1 hr' with hr' | hr'
      · exact ha r hr'
      · rw [List.mem_singleton.1 hr']
        refine ⟨hw, rfl, by simp, fun x hx => ?_⟩
        simp only [List.mem_cons, List.not_mem_nil, or_false] at hx
        omega) hp3
    refine ⟨rows', p', s', ev_step ?_, q1, q2, q3⟩
    simp only [spec_l21Draw.l0, e1, e2, e3, Option.bind_some]
    refine ev_pos (by omega) (ev_pos (by omega) ?_)
    rw [w64s (by omega)]
    exact e
theorem spec_l21Draw.ex (l : List Int) (h : l.length ≤ 1048576) (p s : Int) (hp : 0 ≤ p) (n : Nat) (hn : n ≤ 10) : ∃ rows p' s', Ev (fun k => spec_l21Draw.f k l p s (n : Int)) (rows, p', s') ∧ rows.length = n ∧ (∀ r ∈ rows, rowDrawn r) ∧ 0 ≤ p' := by
  unfold spec_l21Draw.f
  exact spec_l21Draw.ex0 l h n hn n 0 p s [] (by omega) rfl (by simp) hp
theorem drawn_ok {rows : List S44} (h : ∀ r ∈ rows, rowDrawn r) (h1 : 1 ≤ rows.length) (h2 : rows.length ≤ 10) : tableOk rows = true := tableOk_iff.2 ⟨fun r hr => ⟨(h r hr).1, by have := (h r hr).2.1; omega⟩, h1, h2⟩
theorem drawn_nice {rows : List S44} (h : ∀ r ∈ rows, rowDrawn r) (h2 : rows.length ≤ 10) : nL44 rows := ⟨by omega, fun r hr => ⟨by have := (h r hr).1; unfold i64r; omega, (h r hr).2.2⟩⟩

theorem spec_l23Pair.ex (l : List Int) (h : l.length ≤ 1048576) (p s : Int) (hp : 0 ≤ p) : ∃ (n : Nat) (tx txs hd : Int) (rows : List S44) (p' s' : Int), Ev (fun k => spec_l23Pair.f k l p s) ((n : Int), tx, txs, 4000, hd, rows, p', s') ∧ (1 ≤ n ∧ n ≤ 5) ∧ (0 ≤ tx ∧ tx ≤ 40) ∧ (0 ≤ txs ∧ txs ≤ 8) ∧ (3 ≤ hd ∧ hd ≤ 5) ∧ rows.length = n ∧ (∀ r ∈ rows, rowDrawn r) ∧ 0 ≤ p' := by
  unfold spec_l23Pair.f
  obtain ⟨n0, tx, txs, fr, hd, p1, s1, e1, hp1, _, h2, h3, _, h5⟩ := spec_l10Draw.ex l p s hp h
  obtain ⟨b, p2, s2, e2, hp2, hb, _⟩ := spec_l01Below.ex l p1 s1 5 hp1 h
  have hb := hb (by decide)
  obtain ⟨m, rfl⟩ := Int.eq_ofNat_of_zero_le hb.1
  obtain ⟨rows, p3, s3, e3, q1, q2, q3⟩ := spec_l21Draw.ex l h p2 s2 hp2 (m + 1) (by omega)
  refine ⟨m + 1, tx, txs, hd, rows, p3, s3, ?_, by omega, h2, h3, h5, q1, q2, q3⟩
  have em : wrap64 (1 + (m : Int)) = ((m + 1 : Nat) : Int) := by rw [w64 (by omega) (by omega)]; omega
  simp only [e1, e2, Option.bind_some, em]
  exact Ev.bind e3 (ev_some rfl)

theorem spec_MakeTable.ex (l : List Int) (h : l.length ≤ 1048576) : ∃ (n : Nat) (tx txs hd : Int) (rows : List S44), Ev (fun k => spec_MakeTable.f k l) ((n : Int), tx, txs, 4000, hd, rows) ∧ (1 ≤ n ∧ n ≤ 5) ∧ (0 ≤ tx ∧ tx ≤ 40) ∧ (0 ≤ txs ∧ txs ≤ 8) ∧ (3 ≤ hd ∧ hd ≤ 5) ∧ rows.length = n ∧ (∀ r ∈ rows, rowDrawn r) := by
  unfold spec_MakeTable.f
  obtain ⟨s, e⟩ := spec_l01New.ex l h
  obtain ⟨n, tx, txs, hd, rows, p', s', e', h1, h2, h3, h4, h5, h6, _⟩ := spec_l23Pair.ex l h 0 s (by omega)
  exact ⟨n, tx, txs, hd, rows, Ev.bind e (Ev.bind e' (ev_some rfl)), h1, h2, h3, h4, h5, h6⟩

theorem spec_BitsSize.eq (n : Int) (h : i64r n) : spec_BitsSize.f n = some (bitsSize n) := by
  have h' : -9223372036854775808 ≤ n ∧ n ≤ 9223372036854775807 := h
  unfold spec_BitsSize.f bitsSize
  by_cases c : n < 1
  · rw [if_pos c, if_pos c]
  · rw [if_neg c, if_neg c, w64 (n := n - 1) (by omega) (by omega), Int.tdiv_eq_ediv_of_nonneg (by omega), w64 (n := (n - 1) / 8) (by omega) (by omega), w64 (by omega) (by omega)]
theorem spec_BitsSize.ev (n : Int) (h : i64r n) : Ev (fun k => spec_BitsSize.f n) (bitsSize n) := ev_eq (spec_BitsSize.eq n h)

theorem spec_l01In.eq (a b c : Int) : spec_l01In.f a b c = some (decide (b ≤ a ∧ a ≤ c)) := by
  unfold spec_l01In.f
  split <;> simp_all <;> omega

theorem spec_l02Signers.eq (a : Int) : spec_l02Signers.f a = some (decide (1 ≤ a ∧ a ≤ 10)) := by
  unfold spec_l02Signers.f
  rw [spec_l01In.eq]
  rfl

theorem spec_BitsNew.eq (n : Nat) (h1 : 1 ≤ n) (h2 : n ≤ 10) : spec_BitsNew.f (n : Int) = some (List.replicate (bitsSize (n : Int)).toNat 0) := by
  unfold spec_BitsNew.f
  rw [spec_l02Signers.eq, Option.bind_some, if_pos (by simp; omega), spec_BitsSize.eq _ (by unfold i64r; omega), Option.bind_some]
  have : 0 ≤ bitsSize (n : Int) ∧ bitsSize (n : Int) ≤ 2 := by unfold bitsSize; split <;> omega
  rw [if_pos this.1, if_pos (by omega)]

theorem spec_l01Once.ex (l : List Int) (p s n : Int) (hp : 0 ≤ p) (h : l.length ≤ 1048576) : ∃ b p' s', spec_l01Once.f l p s n = some (b, p', s') ∧ 0 ≤ p' := by
  unfold spec_l01Once.f
  obtain ⟨b, p1, s1, e, hp1, _⟩ := spec_l01Below.ex l p s n hp h
  rw [e]
  exact ⟨_, _, _, rfl, hp1⟩

theorem spec_l02Draw.ex0 (l : List Int) (h : l.length ≤ 1048576) (n : Nat) (hn : n ≤ 10) : ∀ (d i : Nat) (p s : Int) (b : List Int), i + d = n → (b.length : Int) = bitsSize (n : Int) → niceB b → (∀ j, bitAt b j = true → j < n) → 0 ≤ p → ∃ b' p' s', Ev (fun k => spec_l02Draw.l0 k (n : Int) b (i : Int) l p s) (b', p', s') ∧ (b'.length : Int) = bitsSize (n : Int) ∧ niceB b' ∧ (∀ j, bitAt b' j = true → j < n) := by
  intro d
  induction d with
  | zero =>
    intro i p s b hi hl hb ha hp
    refine ⟨b, p, s, ev_step ?_, hl, hb, ha⟩
    simp only [spec_l02Draw.l0]
    exact ev_neg (by omega) (ev_some rfl)
  | succ d ih =>
    intro i p s b hi hl hb ha hp
    obtain ⟨q, p1, s1, e1, hp1⟩ := spec_l01Once.ex l p s 3 hp h
    have hlen : i / 8 < b.length := by
      have : bitsSize (n : Int) = ((n : Int) - 1) / 8 + 1 := by unfold bitsSize; rw [if_neg (by omega)]
      omega
    cases q with
    | true =>
      obtain ⟨b', p', s', e, r⟩ := ih (i + 1) p1 s1 b (by omega) hl hb ha hp1
      refine ⟨b', p', s', ev_step ?_, r⟩
      simp only [spec_l02Draw.l0, e1, Option.bind_some]
      refine ev_pos (by omega) (ev_pos trivial ?_)
      rw [w64s (by omega)]
      exact e
    | false =>
      have e8 : Int.tdiv (i : Int) 8 = ((i / 8 : Nat) : Int) := tdiv_nat i 8
      have m8 : Int.tmod (i : Int) 8 = ((i % 8 : Nat) : Int) := tmod_nat i 8
      obtain ⟨b', p', s', e, r⟩ := ih (i + 1) p1 s1 (bitSet .or b i) (by omega) (by rw [bitSet_length]; exact hl) (bitSet_nice hb i) (fun j hj => by
        rw [bitSet_bit hb (by omega) (by intro p; simp [bitOp])] at hj
        by_cases c : j = i
        · omega
        · rw [if_neg c] at hj
          exact ha j hj) hp1
      refine ⟨b', p', s', ev_step ?_, r⟩
      simp only [spec_l02Draw.l0]
      rw [e1]
      refine ev_pos (by omega) (Ev.bind (Ev.now _) ?_)
      refine ev_neg (show ¬ (false = true) by decide) ?_
      rw [e8, m8, w64n (by omega), w64s (by omega), toNat_nat, shl1 (by omega)]
      exact ev_pos (by omega) (ev_pos (by omega) (ev_pos (by omega) e))
theorem spec_l02Draw.ex (l : List Int) (h : l.length ≤ 1048576) (p s : Int) (hp : 0 ≤ p) (n : Nat) (h1 : 1 ≤ n) (hn : n ≤ 10) : ∃ b p' s', Ev (fun k => spec_l02Draw.f k l p s (n : Int)) (b, p', s') ∧ niceB b ∧ bitsOk b (n : Int) = true := by
  have z := spec_BitsNew.eq n h1 hn
  have hs : 0 ≤ bitsSize (n : Int) ∧ bitsSize (n : Int) ≤ 2 := by unfold bitsSize; split <;> omega
  obtain ⟨b, p', s', e, q1, q2, q3⟩ := spec_l02Draw.ex0 l h n hn n 0 p s (List.replicate (bitsSize (n : Int)).toNat 0) (by omega) (by rw [List.length_replicate]; omega) ⟨by rw [List.length_replicate]; omega, fun x hx => by rw [List.eq_of_mem_replicate hx]; omega⟩ (fun j hj => by rw [bitAt_zero] at hj; cases hj) hp
  refine ⟨b, p', s', ?_, q2, bitsOk_of (by omega) (by omega) q1 q3⟩
  unfold spec_l02Draw.f
  exact ev_bind0 z e

theorem spec_MakeBits.ex (l : List Int) (h : l.length ≤ 1048576) (n : Nat) (h1 : 1 ≤ n) (hn : n ≤ 10) (c : Int) (hc : 0 ≤ c) (hc' : c ≤ 1000) : ∃ b, Ev (fun k => spec_MakeBits.f k l (n : Int) c) b ∧ niceB b ∧ bitsOk b (n : Int) = true := by
  unfold spec_MakeBits.f
  obtain ⟨s, e⟩ := spec_l01New.ex l h
  obtain ⟨b, p', s', e', q1, q2⟩ := spec_l02Draw.ex l h 0 (wrap64 ((wrap64 (s + (wrap64 (100 * c)))) + 3)) (by omega) n h1 hn
  exact ⟨b, Ev.bind e (Ev.bind e' (ev_some rfl)), q1, q2⟩

theorem impl_each.ev0 (a b : List Int) (q : Int) (hl : a.length = b.length) (ha : a.length ≤ 1048576) : ∀ (d n : Nat), n + d = a.length → Ev (fun k => impl_each.l0 k a b ((bitsZip .and a b).take n) (a.length : Int) (n : Int)) (bitsZip .and a b)
  | 0, n, hn => by
    refine ev_step ?_
    simp only [impl_each.l0]
    refine ev_neg (by omega) (ev_some ?_)
    rw [List.take_of_length_le (by rw [bitsZip_length]; omega)]
  | d + 1, n, hn => by
    have hlt : n < a.length := by omega
    refine ev_step ?_
    simp only [impl_each.l0]
    refine ev_pos (by omega) (ev_pos (by omega) (ev_pos (by omega) (ev_pos (by omega) ?_)))
    simp only [impl_BitsAnd_fn1.f, Option.bind_some]
    refine ev_pos (by rw [List.length_take]; omega) ?_
    rw [w64s (by omega), ← bitsZip_take hl hlt]
    exact impl_each.ev0 a b q hl ha d (n + 1) (by omega)
theorem impl_each.ev (a b : List Int) (q : Int) (ha : niceB a) (hb : niceB b) : Ev (fun k => impl_each.f k a b q) (bitsBoth .and a b) := by
  unfold impl_each.f bitsBoth
  refine ev_ite (fun c => ?_) (fun c => ev_some ?_)
  · have c' : a.length = b.length := by omega
    rw [if_pos c']
    exact impl_each.ev0 a b q c' ha.1 a.length 0 (by omega)
  · rw [if_neg (by omega)]

theorem impl_BitsAnd.ev (a b : List Int) (ha : niceB a) (hb : niceB b) : Ev (fun k => impl_BitsAnd.f k a b) (bitsBoth .and a b) := by
  unfold impl_BitsAnd.f
  exact Ev.bind (impl_each.ev a b _ ha hb) (ev_some rfl)
theorem impl_BitsAnd.nice (a b : List Int) (ha : niceB a) (hb : niceB b) : niceB (bitsBoth .and a b) := bitsBoth_nice _ ha

theorem impl_within.eq (a b c : Int) : impl_within.f a b c = some (decide (b ≤ a ∧ a ≤ c)) := by
  unfold impl_within.f
  split <;> simp [*]

theorem impl_TableOk.ev0 (l : List S44) (h : nL44 l) : ∀ (d n : Nat), n + d = l.length → Ev (fun k => impl_TableOk.l0 k l (l.length : Int) (n : Int) l) ((l.drop n).all (fun r => decide (1 ≤ r.f0 ∧ r.f0 ≤ 1099511627776) && decide (1 ≤ r.f1.length ∧ r.f1.length ≤ 64)) && decide (1 ≤ l.length ∧ l.length ≤ 10))
  | 0, n, hn => by
    have hl := h.1
    refine ev_step ?_
    simp only [impl_TableOk.l0, impl_within.eq, Option.bind_some]
    refine ev_neg (by omega) (ev_some ?_)
    rw [List.drop_of_length_le (by omega)]
    have e : (1 ≤ (l.length : Int) ∧ (l.length : Int) ≤ 10) ↔ (1 ≤ l.length ∧ l.length ≤ 10) := by omega
    simp [e]
  | d + 1, n, hn => by
    have hl := h.1
    have hlt : n < l.length := by omega
    have e : rd_T44 l (n : Int) = l[n] := getD_nat _ hlt
    refine ev_step ?_
    simp only [impl_TableOk.l0, impl_within.eq, Option.bind_some]
    refine ev_pos (by omega) (ev_pos (by omega) (ev_pos (by omega) ?_))
    rw [e, List.drop_eq_getElem_cons hlt]
    simp only [List.all_cons]
    refine ev_ite (fun c1 => ?_) (fun c1 => ev_some ?_)
    · refine ev_ite (fun c2 => ?_) (fun c2 => ev_some ?_)
      · rw [w64s (by omega)]
        refine ev_to (impl_TableOk.ev0 l h d (n + 1) (by omega)) ?_
        simp only [decide_eq_true_eq] at c1 c2
        have c3 : 1 ≤ (l[n]).f1.length ∧ (l[n]).f1.length ≤ 64 := by omega
        simp only [c1, c3, and_self, decide_true, Bool.true_and]
      · simp only [decide_eq_true_eq] at c2
        have c3 : ¬ (1 ≤ (l[n]).f1.length ∧ (l[n]).f1.length ≤ 64) := by omega
        simp only [c3, decide_false, Bool.and_false, Bool.false_and]
    · simp only [decide_eq_true_eq] at c1
      simp only [c1, decide_false, Bool.false_and]
theorem impl_TableOk.ev (l : List S44) (h : nL44 l) : Ev (fun k => impl_TableOk.f k l) (tableOk l) := by
  unfold impl_TableOk.f
  refine ev_to (impl_TableOk.ev0 l h l.length 0 (by omega)) ?_
  unfold tableOk
  rw [List.drop_zero]

theorem impl_BitsHas.eq (b : List Int) (h : niceB b) (i : Nat) (hi : i ≤ 4611686018427387904) : impl_BitsHas.f b (i : Int) = some (bitAt b i) := by
  have hl := h.1
  have e8 : Int.tdiv (i : Int) 8 = ((i / 8 : Nat) : Int) := tdiv_nat i 8
  have m8 : Int.tmod (i : Int) 8 = ((i % 8 : Nat) : Int) := tmod_nat i 8
  unfold impl_BitsHas.f
  rw [w64 (n := 8 * (b.length : Int)) (by omega) (by omega), w64 (by omega) (by omega), e8, m8, w64n (by omega)]
  simp only [impl_within.eq, Option.bind_some, decide_eq_true_eq]
  by_cases c : i < 8 * b.length
  · rw [if_pos (by omega), if_pos (by omega), if_pos (by omega), if_pos (by omega)]
    have q := rd_nice h ((i / 8 : Nat) : Int)
    have e : shr .u8 (rd b ((i / 8 : Nat) : Int)) ((i % 8 : Nat) : Int) = rd b ((i / 8 : Nat) : Int) / 2 ^ (i % 8) := by
      unfold shr
      rw [toNat_nat, Nat.min_eq_left (by show i % 8 ≤ 8; omega)]
    have d := div_pow_bd q.1 q.2 (i % 8)
    rw [e, u8_and1 d.1 d.2]
    rfl
  · rw [if_neg (by omega), bitAt_out (by omega)]
theorem impl_BitsHas.ev (b : List Int) (h : niceB b) (i : Nat) (hi : i ≤ 4611686018427387904) : Ev (fun k => impl_BitsHas.f b (i : Int)) (bitAt b i) := ev_eq (impl_BitsHas.eq b h i hi)

theorem impl_BitsList.ev0 (b : List Int) (h : niceB b) : ∀ (d n : Nat) (acc : List Int), n + d = 8 * b.length → acc.length ≤ n → Ev (fun k => impl_BitsList.l0 k b acc ((8 * b.length : Nat) : Int) (n : Int)) (acc ++ (bitsFrom b n d).map fun (n : Nat) => (n : Int))
  | 0, n, acc, hn, ha => by
    refine ev_step ?_
    simp only [impl_BitsList.l0]
    exact ev_neg (by omega) (ev_some (by simp [bitsFrom]))
  | d + 1, n, acc, hn, ha => by
    have hl := h.1
    refine ev_step ?_
    simp only [impl_BitsList.l0, impl_BitsHas.eq b h n (by omega), Option.bind_some]
    refine ev_pos (by omega) ?_
    rw [w64s (by omega)]
    unfold bitsFrom
    refine ev_ite (fun c => ?_) (fun c => ?_)
    · rw [if_pos c]
      refine ev_pos (by omega) (ev_to (impl_BitsList.ev0 b h d (n + 1) _ (by omega) (by simp; omega)) ?_)
      simp
    · rw [if_neg c]
      exact impl_BitsList.ev0 b h d (n + 1) acc (by omega) (by omega)
theorem impl_BitsList.ev (b : List Int) (h : niceB b) : Ev (fun k => impl_BitsList.f k b) (bitsList b) := by
  have hl := h.1
  unfold impl_BitsList.f
  rw [w64 (by omega) (by omega)]
  exact ev_to (impl_BitsList.ev0 b h (8 * b.length) 0 [] (by omega) (by simp)) (by simp [bitsList])

theorem impl_BitsSize.eq (n : Int) (h : i64r n) : impl_BitsSize.f n = some (bitsSize n) := by
  have h' : -9223372036854775808 ≤ n ∧ n ≤ 9223372036854775807 := h
  unfold impl_BitsSize.f bitsSize
  by_cases c : n < 1
  · rw [if_pos c, if_pos c]
  · rw [if_neg c, if_neg c, w64 (n := n - 1) (by omega) (by omega), Int.tdiv_eq_ediv_of_nonneg (by omega), w64 (n := (n - 1) / 8) (by omega) (by omega), w64 (by omega) (by omega)]
theorem impl_BitsSize.ev (n : Int) (h : i64r n) : Ev (fun k => impl_BitsSize.f n) (bitsSize n) := ev_eq (impl_BitsSize.eq n h)

theorem impl_BitsOk.ev0 (n : Int) (l : List Int) (hl : l.length ≤ 9223372036854775806) : ∀ (d i : Nat), i + d = l.length → Ev (fun k => impl_BitsOk.l0 k n l (l.length : Int) (i : Int)) ((l.drop i).all fun x => decide (x < n))
  | 0, i, hi => by
    refine ev_step ?_
    simp only [impl_BitsOk.l0]
    refine ev_neg (by omega) (ev_some ?_)
    rw [List.drop_of_length_le (by omega)]
    rfl
  | d + 1, i, hi => by
    have hlt : i < l.length := by omega
    refine ev_step ?_
    simp only [impl_BitsOk.l0]
    refine ev_pos (by omega) (ev_pos (by omega) (ev_pos (by omega) ?_))
    rw [w64s (by omega), rd_nat hlt, List.drop_eq_getElem_cons hlt, List.all_cons]
    refine ev_ite (fun c => ev_some ?_) (fun c => ev_to (impl_BitsOk.ev0 n l hl d (i + 1) (by omega)) ?_)
    · simp; omega
    · simp; omega
theorem impl_BitsOk.ev (b : List Int) (n : Int) (h : niceB b) (hn : i64r n) : Ev (fun k => impl_BitsOk.f k b n) (bitsOk b n) := by
  have hl := h.1
  have hL := bitsList_length b
  unfold impl_BitsOk.f bitsOk
  simp only [impl_within.eq, Option.bind_some, impl_BitsSize.eq n hn, decide_eq_true_eq]
  refine ev_ite (fun c => ?_) (fun c => ?_)
  · refine ev_step ?_
    simp only [impl_BitsOk.j0]
    refine ev_ite (fun e => ev_some ?_) (fun e => ?_)
    · simp at e
      simp [e]
    · simp at e
      refine Ev.bind (impl_BitsList.ev b h) (ev_to (impl_BitsOk.ev0 n _ (by omega) (bitsList b).length 0 (by omega)) ?_)
      simp [c, e]
  · refine ev_step ?_
    simp only [impl_BitsOk.j0]
    exact ev_pos trivial (ev_some (by simp [c]))

theorem impl_WeightOf.ev0 (l : List S44) (h : tableOk l = true) (x : List Nat) (hx : ∀ i ∈ x, i < l.length) (hxl : x.length ≤ 16) : ∀ (d n : Nat) (acc : Int), n + d = x.length → 0 ≤ acc → acc ≤ n * 1099511627776 → Ev (fun k => impl_WeightOf.l0 k acc (x.map fun (i : Nat) => (i : Int)) (x.length : Int) (n : Int) l) (acc + isum l (x.drop n)) := by
  intro d
  induction d with
  | zero =>
    intro n acc hn h0 h1
    refine ev_step ?_
    simp only [impl_WeightOf.l0]
    refine ev_neg (by omega) (ev_some ?_)
    rw [List.drop_of_length_le (by omega)]
    simp [isum]
  | succ d ih =>
    intro n acc hn h0 h1
    obtain ⟨hr, _, hl⟩ := tableOk_iff.1 h
    have hlt : n < x.length := by omega
    have hi := hx _ (List.getElem_mem hlt)
    have e0 : rd (x.map fun (i : Nat) => (i : Int)) (n : Int) = (x[n] : Int) := by rw [rd_nat (by simpa using hlt), List.getElem_map]
    have e : rd_T44 l (x[n] : Int) = l[x[n]] := getD_nat _ hi
    have bd := (hr _ (List.getElem_mem hi)).1
    refine ev_step ?_
    simp only [impl_WeightOf.l0, e0, List.length_map]
    refine ev_pos (by omega) (ev_pos (by omega) (ev_pos (by omega) (ev_pos (by omega) (ev_pos (by omega) ?_))))
    rw [e, w64s (by omega), w64 (by omega) (by omega)]
    refine ev_to (ih (n + 1) _ (by omega) (by omega) (by omega)) ?_
    rw [List.drop_eq_getElem_cons hlt, isum]
    simp [hi]
    omega
theorem impl_WeightOf.ev (l : List S44) (b : List Int) (h : nL44 l) (hb : niceB b) : Ev (fun k => impl_WeightOf.f k l b) (weightOf l b) := by
  have hl := h.1
  unfold impl_WeightOf.f weightOf
  refine Ev.bind (impl_TableOk.ev l h) ?_
  refine ev_ite (fun c => ?_) (fun c => ?_)
  · refine Ev.bind (impl_BitsOk.ev b _ hb (by unfold i64r; omega)) (ev_step ?_)
    simp only [impl_WeightOf.j0]
    refine ev_ite (fun e => ev_some ?_) (fun e => ?_)
    · simp at e
      rw [if_neg (by simp [e])]
    · simp at e
      rw [if_pos ⟨c, e⟩]
      refine Ev.bind (impl_BitsList.ev b hb) ?_
      have b2 := bitsOk_len e
      obtain ⟨_, _, b3⟩ := bitsOk_iff.1 e
      have bl := bitsFrom_length b (8 * b.length) 0
      have el : ((bitsList b).length : Int) = ((bitsFrom b 0 (8 * b.length)).length : Int) := by simp [bitsList]
      rw [el]
      refine ev_to (impl_WeightOf.ev0 l c (bitsFrom b 0 (8 * b.length)) (fun i hi => ?_) (by omega) (bitsFrom b 0 (8 * b.length)).length 0 0 (by omega) (by omega) (by omega)) ?_
      · have := b3 (i : Int) (List.mem_map.2 ⟨i, hi, rfl⟩)
        omega
      · rw [List.drop_zero, isum_bits b l _ 0 (fun j hj => bitsOk_bit e (by omega)) ?_, List.drop_zero]
        · omega
        · obtain ⟨b4, b5, _⟩ := bitsOk_iff.1 e
          unfold bitsSize at b5
          split at b5 <;> omega
  · refine ev_step ?_
    simp only [impl_WeightOf.j0]
    exact ev_pos trivial (ev_some (by rw [if_neg (by simp [c])]))

theorem impl_TotalOf.ev0 (l : List S44) (hN : nL44 l) (h : tableOk l = true) : ∀ (d n : Nat) (acc : Int), n + d = l.length → 0 ≤ acc → acc ≤ n * 1099511627776 → Ev (fun k => impl_TotalOf.l0 k acc l (l.length : Int) (n : Int) l) (acc + total (l.drop n)) := by
  intro d
  induction d with
  | zero =>
    intro n acc hn h0 h1
    refine ev_step ?_
    simp only [impl_TotalOf.l0]
    refine ev_neg (by omega) (ev_some ?_)
    rw [List.drop_of_length_le (by omega)]
    simp [total]
  | succ d ih =>
    intro n acc hn h0 h1
    obtain ⟨hr, _, hl⟩ := tableOk_iff.1 h
    have hlt : n < l.length := by omega
    have e : rd_T44 l (n : Int) = l[n] := getD_nat _ hlt
    have b := (hr _ (List.getElem_mem hlt)).1
    refine ev_step ?_
    simp only [impl_TotalOf.l0]
    refine ev_pos (by omega) (ev_pos (by omega) (ev_pos (by omega) (Ev.bind (impl_TableOk.ev l hN) (ev_pos h ?_))))
    rw [e, w64s (by omega), w64 (by omega) (by omega)]
    refine ev_to (ih (n + 1) _ (by omega) (by omega) (by omega)) ?_
    rw [List.drop_eq_getElem_cons hlt, total]
    omega
theorem impl_TotalOf.ev1 (l : List S44) (hN : nL44 l) (h : ¬tableOk l = true) : ∀ (d n : Nat) (acc : Int), n + d = l.length → Ev (fun k => impl_TotalOf.l0 k acc l (l.length : Int) (n : Int) l) acc
  | 0, n, acc, hn => by
    refine ev_step ?_
    simp only [impl_TotalOf.l0]
    exact ev_neg (by omega) (ev_some rfl)
  | d + 1, n, acc, hn => by
    have hl := hN.1
    refine ev_step ?_
    simp only [impl_TotalOf.l0]
    refine ev_pos (by omega) (ev_pos (by omega) (ev_pos (by omega) (Ev.bind (impl_TableOk.ev l hN) (ev_neg h ?_))))
    rw [w64s (by omega)]
    exact impl_TotalOf.ev1 l hN h d (n + 1) _ (by omega)
theorem impl_TotalOf.ev (l : List S44) (h : nL44 l) : Ev (fun k => impl_TotalOf.f k l) (totalOf l) := by
  unfold impl_TotalOf.f totalOf
  by_cases c : tableOk l = true
  · exact ev_to (impl_TotalOf.ev0 l h c l.length 0 0 (by omega) (by omega) (by omega)) (by rw [if_pos c, List.drop_zero]; omega)
  · exact ev_to (impl_TotalOf.ev1 l h c l.length 0 0 (by omega)) (by rw [if_neg c])

theorem impl_eachO.ev0 (a b : List Int) (q : Int) (hl : a.length = b.length) (ha : a.length ≤ 1048576) : ∀ (d n : Nat), n + d = a.length → Ev (fun k => impl_eachO.l0 k a b ((bitsZip .or a b).take n) (a.length : Int) (n : Int)) (bitsZip .or a b)
  | 0, n, hn => by
    refine ev_step ?_
    simp only [impl_eachO.l0]
    refine ev_neg (by omega) (ev_some ?_)
    rw [List.take_of_length_le (by rw [bitsZip_length]; omega)]
  | d + 1, n, hn => by
    have hlt : n < a.length := by omega
    refine ev_step ?_
    simp only [impl_eachO.l0]
    refine ev_pos (by omega) (ev_pos (by omega) (ev_pos (by omega) (ev_pos (by omega) ?_)))
    simp only [impl_BitsOr_fn1.f, Option.bind_some]
    refine ev_pos (by rw [List.length_take]; omega) ?_
    rw [w64s (by omega), ← bitsZip_take hl hlt]
    exact impl_eachO.ev0 a b q hl ha d (n + 1) (by omega)
theorem impl_eachO.ev (a b : List Int) (q : Int) (ha : niceB a) (hb : niceB b) : Ev (fun k => impl_eachO.f k a b q) (bitsBoth .or a b) := by
  unfold impl_eachO.f bitsBoth
  refine ev_ite (fun c => ?_) (fun c => ev_some ?_)
  · have c' : a.length = b.length := by omega
    rw [if_pos c']
    exact impl_eachO.ev0 a b q c' ha.1 a.length 0 (by omega)
  · rw [if_neg (by omega)]

theorem impl_BitsOr.ev (a b : List Int) (ha : niceB a) (hb : niceB b) : Ev (fun k => impl_BitsOr.f k a b) (bitsBoth .or a b) := by
  unfold impl_BitsOr.f
  exact Ev.bind (impl_eachO.ev a b _ ha hb) (ev_some rfl)
theorem impl_BitsOr.nice (a b : List Int) (ha : niceB a) (hb : niceB b) : niceB (bitsBoth .or a b) := bitsBoth_nice _ ha

theorem impl_Overlap.ev (l : List S44) (a b : List Int) (h : nL44 l) (ha : niceB a) (hb : niceB b) : Ev (fun k => impl_Overlap.f k l a b) (weightOf l (bitsBoth .and a b)) := by
  unfold impl_Overlap.f
  refine Ev.bind (impl_BitsAnd.ev a b ha hb) (Ev.bind (impl_WeightOf.ev l _ h (bitsBoth_nice _ ha)) (ev_some rfl))

theorem impl_IsQuorum.ev (l : List S44) (b : List Int) (h : nL44 l) (hb : niceB b) : Ev (fun k => impl_IsQuorum.f k l b) (isQuorum l b) := by
  have w := weightOf_bd l b
  have t := totalOf_bd l
  unfold impl_IsQuorum.f isQuorum
  refine Ev.bind (impl_TableOk.ev l h) (ev_ite (fun c => ?_) (fun c => ev_some (by simp [c])))
  refine Ev.bind (impl_WeightOf.ev l b h hb) (Ev.bind (impl_TotalOf.ev l h) (ev_some ?_))
  rw [w64 (by omega) (by omega), w64 (by omega) (by omega), c, Bool.true_and]

theorem spec_l01Copy.eq (l : List Int) (h : l.length ≤ 1073741824) : spec_l01Copy.f l = some l := by
  unfold spec_l01Copy.f
  simp only [Option.bind_some, List.nil_append, List.length_nil]
  rw [if_pos (by omega)]

theorem spec_MakeFull.ex (n : Nat) (h1 : 1 ≤ n) (hn : n ≤ 10) : ∃ b, Ev (fun k => spec_MakeFull.f k (n : Int)) b ∧ niceB b ∧ bitsOk b (n : Int) = true ∧ ∀ j, j < n → bitAt b j = true := by
  have go : ∀ b : List Int, spec_MakeFull.f 12 (n : Int) = some b → niceB b → bitsOk b (n : Int) = true → (∀ j, j < n → bitAt b j = true) → ∃ b, Ev (fun k => spec_MakeFull.f k (n : Int)) b ∧ niceB b ∧ bitsOk b (n : Int) = true ∧ ∀ j, j < n → bitAt b j = true := fun b e x y z => ⟨b, Ev.of (fun k => spec_MakeFull.mono _ k) e, x, y, z⟩
  match n, h1, hn with
  | 1, _, _ => exact go [1] (by kernel_rfl) ⟨by decide, by decide⟩ (by kernel_rfl) (by decide)
  | 2, _, _ => exact go [3] (by kernel_rfl) ⟨by decide, by decide⟩ (by kernel_rfl) (by decide)
  | 3, _, _ => exact go [7] (by kernel_rfl) ⟨by decide, by decide⟩ (by kernel_rfl) (by decide)
  | 4, _, _ => exact go [15] (by kernel_rfl) ⟨by decide, by decide⟩ (by kernel_rfl) (by decide)
  | 5, _, _ => exact go [31] (by kernel_rfl) ⟨by decide, by decide⟩ (by kernel_rfl) (by decide)
  | 6, _, _ => exact go [63] (by kernel_rfl) ⟨by decide, by decide⟩ (by kernel_rfl) (by decide)
  | 7, _, _ => exact go [127] (by kernel_rfl) ⟨by decide, by decide⟩ (by kernel_rfl) (by decide)
  | 8, _, _ => exact go [255] (by kernel_rfl) ⟨by decide, by decide⟩ (by kernel_rfl) (by decide)
  | 9, _, _ => exact go [255, 1] (by kernel_rfl) ⟨by decide, by decide⟩ (by kernel_rfl) (by decide)
  | 10, _, _ => exact go [255, 3] (by kernel_rfl) ⟨by decide, by decide⟩ (by kernel_rfl) (by decide)

theorem impl_IsFew.ev (l : List S44) (b : List Int) (h : nL44 l) (hb : niceB b) : Ev (fun k => impl_IsFew.f k l b) (isFew l b) := by
  have w := weightOf_bd l b
  have t := totalOf_bd l
  have hl := h.1
  unfold impl_IsFew.f isFew
  refine Ev.bind (impl_TableOk.ev l h) (ev_ite (fun c => ?_) (fun c => ev_some (by simp [c])))
  refine Ev.bind (impl_BitsOk.ev b _ hb (by unfold i64r; omega)) (ev_ite (fun e => ?_) (fun e => ev_some (by simp [e])))
  refine Ev.bind (impl_WeightOf.ev l b h hb) (Ev.bind (impl_TotalOf.ev l h) (ev_some ?_))
  rw [w64 (by omega) (by omega), c, e, Bool.true_and, Bool.true_and]

theorem impl_SameBytes.eq (a b : List Int) : impl_SameBytes.f a b = some (sameB a b) := rfl
theorem impl_SameBytes.ev (a b : List Int) : Ev (fun k => impl_SameBytes.f a b) (sameB a b) := ev_eq rfl

def bitsIn (a b : List Int) : Bool := decide (a.length = b.length) && sameB (bitsBoth .and a b) a
theorem impl_BitsIn.ev (a b : List Int) (ha : niceB a) (hb : niceB b) : Ev (fun k => impl_BitsIn.f k a b) (bitsIn a b) := by
  unfold impl_BitsIn.f bitsIn
  refine ev_ite (fun c => ?_) (fun c => ev_some ?_)
  · have c' : a.length = b.length := by omega
    rw [decide_eq_true c', Bool.true_and]
    refine Ev.bind (impl_BitsAnd.ev a b ha hb) ?_
    simp only [impl_SameBytes.eq, Option.bind_some]
    exact ev_some rfl
  · have c' : ¬ a.length = b.length := by omega
    rw [decide_eq_false c', Bool.false_and]
theorem bitsIn_bit {a b : List Int} (ha : niceB a) (hb : niceB b) (h : bitsIn a b = true) (j : Nat) (hj : bitAt a j = true) : bitAt b j = true := by
  unfold bitsIn at h
  rw [Bool.and_eq_true] at h
  have hl := of_decide_eq_true h.1
  have e := sameB_eq (bitsBoth_nice _ ha) ha h.2
  have q := bitsBoth_bit (op := .and) hl ha hb rfl j
  rw [e, hj] at q
  simpa [bitOp] using q.symm

end Go.Proofs.Ytedebnlmjoljoaa.PFnQuorum
