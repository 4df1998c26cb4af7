/- What the printed forms answer, over numbers and lists alone. Each lemma names its conditions. -/
import Derived.Test.YthocpcfjfgnkgaaGFnTwicee
import Derived.Lib.SlicesCompact
namespace Go.Proofs.YthocpcfjfgnkgaaG
open Go Go.Proofs.YthocpcfjfgnkgaaRv Go.RowKit
set_option linter.unusedVariables false
set_option linter.unusedSimpArgs false


theorem impl_within.ev (a b c : Int) : Ev (fun k => impl_within.f k a b c) (decide (b ≤ a ∧ a ≤ c)) := by
  refine ev_step ?_
  simp only [impl_within.f, impl_within.b]
  exact ev_ite (fun h => ev_some (by simp [h])) (fun h => ev_some (by simp [h]))
theorem spec_l01In.ev (a b c : Int) : Ev (fun k => spec_l01In.f k a b c) (decide (b ≤ a ∧ a ≤ c)) := by
  refine ev_step ?_
  simp only [spec_l01In.f, spec_l01In.b]
  exact ev_ite (fun h => ev_some (by simp [show b ≤ a from h])) (fun h => ev_some (by simp [show ¬ b ≤ a from h]))
theorem impl_isNum.ev (a : Int) : Ev (fun k => impl_isNum.f k a) (isNum a) := by
  refine ev_step ?_
  simp only [impl_isNum.f, impl_isNum.b]
  exact Ev.bind (impl_within.ev _ _ _) (ev_some rfl)
theorem spec_l01Num.ev (a : Int) : Ev (fun k => spec_l01Num.f k a) (isNum a) := by
  refine ev_step ?_
  simp only [spec_l01Num.f, spec_l01Num.b]
  exact Ev.bind (spec_l01In.ev _ _ _) (ev_some rfl)
theorem impl_copyBytes.ev (z : Bool) (l : List Int) (h : l.length ≤ 1073741824) : Ev (fun k => impl_copyBytes.f k z l) (false, l) := by
  refine ev_step ?_
  simp only [impl_copyBytes.f, impl_copyBytes.b]
  exact ev_pos (by omega) (ev_some (by simp))
theorem spec_l01Copy.ev (z : Bool) (l : List Int) (h : l.length ≤ 1073741824) : Ev (fun k => spec_l01Copy.f k z l) (false, l) := by
  refine ev_step ?_
  simp only [spec_l01Copy.f, spec_l01Copy.b]
  exact ev_pos (by omega) (ev_some (by simp))



def putV (b : List Int) (n : Int) : Bool × List Int × Bool := if isNum n = true then (false, b ++ vint 8 n, true) else (true, [], false)
theorem impl_PutVar.ev0 : ∀ (m : Nat) (n : Int) (z : Bool) (acc : List Int), 0 ≤ n → n < 128 ^ (m + 1) → n ≤ 1152921504606846975 → acc.length + m ≤ 1073741840 → Ev (fun k => impl_PutVar.l0 k n z acc) (false, acc ++ vint m n, true)
  | 0, n, z, acc, h0, h1, h2, hl => by
    simp at h1
    refine ev_step ?_
    simp only [impl_PutVar.l0, impl_PutVar.l0b]
    refine ev_neg (by omega) (ev_pos (by omega) (ev_some ?_))
    rw [Int.emod_eq_of_lt h0 (by omega)]
    rfl
  | m + 1, n, z, acc, h0, h1, h2, hl => by
    refine ev_step ?_
    simp only [impl_PutVar.l0, impl_PutVar.l0b]
    unfold vint
    by_cases c : n < 128
    · rw [if_pos c]
      refine ev_neg (by omega) (ev_pos (by omega) (ev_some ?_))
      rw [Int.emod_eq_of_lt h0 (by omega)]
    · rw [if_neg c, Int.tdiv_eq_ediv_of_nonneg h0, Int.tmod_eq_emod_of_nonneg h0, w64 (n := n / 128) (by omega) (by omega), w64 (by omega) (by omega)]
      refine ev_pos (by omega) (ev_pos (by omega) (ev_to (impl_PutVar.ev0 m (n / 128) _ _ (by omega) ?_ (by omega) (by simp; omega)) ?_))
      · have e : (128 : Int) ^ (m + 1 + 1) = 128 ^ (m + 1) * 128 := Int.pow_succ 128 (m + 1)
        rw [e] at h1
        generalize (128 : Int) ^ (m + 1) = q at *
        omega
      · rw [List.append_assoc, List.singleton_append]
        congr 4
        omega
theorem impl_PutVar.ev (z : Bool) (b : List Int) (n : Int) (hb : b.length ≤ 1073741824) : Ev (fun k => impl_PutVar.f k z b n) (putV b n) := by
  refine ev_step ?_
  simp only [impl_PutVar.f, impl_PutVar.b]
  unfold putV
  refine Ev.bind (impl_isNum.ev n) (ev_ite (fun c => ev_some (by rw [if_neg c])) (fun c => ?_))
  have c : isNum n = true := by simpa using c
  obtain ⟨h0, h1⟩ := num_pow c
  rw [if_pos c]
  exact Ev.bind (impl_copyBytes.ev z b hb) (impl_PutVar.ev0 8 n _ b h0 h1 (isNum_iff.1 c).2 (by omega))
theorem spec_PutVar.ev0 : ∀ (m : Nat) (n : Int) (z : Bool) (acc : List Int), 0 ≤ n → n < 128 ^ (m + 1) → n ≤ 1152921504606846975 → acc.length + m ≤ 1073741840 → Ev (fun k => spec_PutVar.l0 k n z acc) (false, acc ++ vint m n, true)
  | 0, n, z, acc, h0, h1, h2, hl => by
    simp at h1
    refine ev_step ?_
    simp only [spec_PutVar.l0, spec_PutVar.l0b]
    refine ev_neg (by omega) (ev_pos (by omega) (ev_some ?_))
    rw [Int.emod_eq_of_lt h0 (by omega)]
    rfl
  | m + 1, n, z, acc, h0, h1, h2, hl => by
    refine ev_step ?_
    simp only [spec_PutVar.l0, spec_PutVar.l0b]
    unfold vint
    by_cases c : n < 128
    · rw [if_pos c]
      refine ev_neg (by omega) (ev_pos (by omega) (ev_some ?_))
      rw [Int.emod_eq_of_lt h0 (by omega)]
    · rw [if_neg c, Int.tdiv_eq_ediv_of_nonneg h0, Int.tmod_eq_emod_of_nonneg h0, w64 (n := n / 128) (by omega) (by omega), w64 (by omega) (by omega)]
      refine ev_pos (by omega) (ev_pos (by omega) (ev_to (spec_PutVar.ev0 m (n / 128) _ _ (by omega) ?_ (by omega) (by simp; omega)) ?_))
      · have e : (128 : Int) ^ (m + 1 + 1) = 128 ^ (m + 1) * 128 := Int.pow_succ 128 (m + 1)
        rw [e] at h1
        generalize (128 : Int) ^ (m + 1) = q at *
        omega
      · rw [List.append_assoc, List.singleton_append]
        congr 4
        omega
theorem spec_PutVar.ev (z : Bool) (b : List Int) (n : Int) (hb : b.length ≤ 1073741824) : Ev (fun k => spec_PutVar.f k z b n) (putV b n) := by
  refine ev_step ?_
  simp only [spec_PutVar.f, spec_PutVar.b]
  unfold putV
  refine Ev.bind (spec_l01Num.ev n) (ev_ite (fun c => ev_some (by rw [if_neg c])) (fun c => ?_))
  have c : isNum n = true := by simpa using c
  obtain ⟨h0, h1⟩ := num_pow c
  rw [if_pos c]
  exact Ev.bind (spec_l01Copy.ev z b hb) (spec_PutVar.ev0 8 n _ b h0 h1 (isNum_iff.1 c).2 (by omega))
theorem spec_l11Num.ev (z : Bool) (b : List Int) (n : Int) (hb : b.length ≤ 1073741824) : Ev (fun k => spec_l11Num.f k z b n) ((putV b n).1, (putV b n).2.1) := by
  refine ev_step ?_
  simp only [spec_l11Num.f, spec_l11Num.b]
  exact Ev.bind (spec_PutVar.ev z b n hb) (ev_some rfl)

def numsV (acc : List Int) (ns : List Int) : Bool × List Int := if ∀ n ∈ ns, isNum n = true then (false, acc ++ ns.flatMap (vint 8)) else (true, [])
theorem impl_numbers.ev0 (zn : Bool) (ns : List Int) (hn : ns.length ≤ 4) : ∀ (d i : Nat) (acc : List Int), i + d = ns.length → acc.length ≤ 100 + 10 * i → Ev (fun k => impl_numbers.l0 k false acc zn ns (ns.length : Int) (i : Int)) (numsV acc (ns.drop i))
  | 0, i, acc, hi, ha => by
    refine ev_step ?_
    simp only [impl_numbers.l0, impl_numbers.l0b]
    refine ev_neg (by omega) (ev_some ?_)
    rw [List.drop_of_length_le (by omega)]
    simp [numsV]
  | d + 1, i, acc, hi, ha => by
    have hlt : i < ns.length := by omega
    refine ev_step ?_
    simp only [impl_numbers.l0, impl_numbers.l0b]
    refine ev_pos (by omega) (ev_pos (by omega) (ev_pos (by omega) ?_))
    have e0 : rdI ns (i : Int) = ns[i] := by simp [rdI, hlt]
    rw [e0, List.drop_eq_getElem_cons hlt]
    refine Ev.bind (impl_PutVar.ev false acc _ (by omega)) ?_
    rw [w64s (by omega)]
    have := vint_length 8 (ns[i])
    unfold putV
    by_cases c : isNum (ns[i]) = true
    · rw [if_pos c]
      have ih := impl_numbers.ev0 zn ns hn d (i + 1) (acc ++ vint 8 ns[i]) (by omega) (by simp; omega)
      refine ev_neg (by simp) (ev_to ih ?_)
      generalize ns.drop (i + 1) = t
      generalize ns[i] = x at *
      simp [numsV, c]
    · rw [if_neg c]
      refine ev_pos (by simp) (ev_some ?_)
      generalize ns.drop (i + 1) = t
      generalize ns[i] = x at *
      simp [numsV, c]
theorem impl_numbers.ev (c : Int) (zn : Bool) (ns : List Int) (hn : ns.length ≤ 4) : Ev (fun k => impl_numbers.f k c zn ns) (numsV [c] ns) := by
  refine ev_step ?_
  simp only [impl_numbers.f, impl_numbers.b]
  exact impl_numbers.ev0 zn ns hn ns.length 0 [c] (by omega) (by simp)
structure Row where
  f0 : Int
  z : Bool
  f1 : List Int
instance : Inhabited Row := ⟨⟨0, false, []⟩⟩
def Row.t (r : Row) : T := .agg [.int .i64 r.f0, .nums 5 .u8 r.z r.f1]
theorem row_at {l : List Row} {i : Nat} (h : i < l.length) : (l.map Row.t).getD i .bad = (l[i]).t := by simp [List.getD_eq_getElem?_getD, h]
theorem Row.c0 (r : Row) : (r.t.cells.getD 0 .bad).toInt = r.f0 := rfl
theorem Row.c1z (r : Row) : (r.t.cells.getD 1 .bad).isNil = r.z := rfl
theorem Row.c1 (r : Row) : (r.t.cells.getD 1 .bad).toNums = r.f1 := rfl

def rowOk (r : Row) : Bool := decide (1 ≤ r.f0 ∧ r.f0 ≤ 1099511627776) && decide (1 ≤ r.f1.length ∧ r.f1.length ≤ 64)
def tabOk (l : List Row) : Bool := l.all rowOk && decide (1 ≤ l.length ∧ l.length ≤ 10)
theorem tabOk_iff {l : List Row} : tabOk l = true ↔ (∀ r ∈ l, (1 ≤ r.f0 ∧ r.f0 ≤ 1099511627776) ∧ 1 ≤ r.f1.length ∧ r.f1.length ≤ 64) ∧ 1 ≤ l.length ∧ l.length ≤ 10 := by
  simp [tabOk, rowOk]
theorem impl_TableOk.ev0 (z : Bool) (l : List Row) (h : l.length ≤ 1048576) : ∀ (d n : Nat), n + d = l.length → Ev (fun k => impl_TableOk.l0 k z (l.map Row.t) (l.length : Int) (n : Int) z (l.map Row.t)) ((l.drop n).all rowOk && decide (1 ≤ l.length ∧ l.length ≤ 10))
  | 0, n, hn => by
    refine ev_step ?_
    simp only [impl_TableOk.l0, impl_TableOk.l0b]
    refine ev_neg (by omega) (Ev.bind (impl_within.ev _ _ _) (ev_some ?_))
    rw [List.drop_of_length_le (by omega), List.length_map]
    have e : (1 ≤ (l.length : Int) ∧ (l.length : Int) ≤ 10) ↔ (1 ≤ l.length ∧ l.length ≤ 10) := by omega
    simp [e]
  | d + 1, n, hn => by
    have hlt : n < l.length := by omega
    refine ev_step ?_
    simp only [impl_TableOk.l0, impl_TableOk.l0b, Int.toNat_natCast, row_at hlt, Row.c0, Row.c1, List.length_map]
    refine ev_pos (by omega) (ev_pos (by omega) (ev_pos (by omega) (Ev.bind (impl_within.ev _ _ _) ?_)))
    rw [List.drop_eq_getElem_cons hlt, List.all_cons]
    refine ev_ite (fun c1 => ev_some ?_) (fun c1 => Ev.bind (impl_within.ev _ _ _) (ev_ite (fun c2 => ev_some ?_) (fun c2 => ?_)))
    · simp at c1
      have : ¬ (1 ≤ (l[n]).f0 ∧ (l[n]).f0 ≤ 1099511627776) := by omega
      simp [rowOk, this]
    · simp at c2
      have : ¬ (1 ≤ (l[n]).f1.length ∧ (l[n]).f1.length ≤ 64) := by omega
      simp [rowOk, this]
    · rw [w64s (by omega)]
      have ih := impl_TableOk.ev0 z l h d (n + 1) (by omega)
      refine ev_to ih ?_
      simp at c1 c2
      have c3 : 1 ≤ (l[n]).f1.length ∧ (l[n]).f1.length ≤ 64 := by omega
      simp [rowOk, c1, c3]
theorem impl_TableOk.ev (z : Bool) (l : List Row) (h : l.length ≤ 1048576) : Ev (fun k => impl_TableOk.f k z (l.map Row.t)) (tabOk l) := by
  refine ev_step ?_
  simp only [impl_TableOk.f, impl_TableOk.b, List.length_map]
  exact ev_to (impl_TableOk.ev0 z l h l.length 0 (by omega)) (by simp [tabOk])
theorem spec_l02Signers.ev (a : Int) : Ev (fun k => spec_l02Signers.f k a) (decide (1 ≤ a ∧ a ≤ 10)) := by
  refine ev_step ?_
  simp only [spec_l02Signers.f, spec_l02Signers.b]
  exact Ev.bind (spec_l01In.ev _ _ _) (ev_some rfl)
theorem spec_TableOk.ev0 (z : Bool) (l : List Row) (h : l.length ≤ 1048576) : ∀ (d n : Nat), n + d = l.length → Ev (fun k => spec_TableOk.l0 k z (l.map Row.t) (l.length : Int) (n : Int) z (l.map Row.t)) ((l.drop n).all rowOk && decide (1 ≤ l.length ∧ l.length ≤ 10))
  | 0, n, hn => by
    refine ev_step ?_
    simp only [spec_TableOk.l0, spec_TableOk.l0b]
    refine ev_neg (by omega) (Ev.bind (spec_l02Signers.ev _) (ev_some ?_))
    rw [List.drop_of_length_le (by omega), List.length_map]
    have e : (1 ≤ (l.length : Int) ∧ (l.length : Int) ≤ 10) ↔ (1 ≤ l.length ∧ l.length ≤ 10) := by omega
    simp [e]
  | d + 1, n, hn => by
    have hlt : n < l.length := by omega
    refine ev_step ?_
    simp only [spec_TableOk.l0, spec_TableOk.l0b, Int.toNat_natCast, row_at hlt, Row.c0, Row.c1, List.length_map]
    refine ev_pos (by omega) (ev_pos (by omega) (ev_pos (by omega) (Ev.bind (spec_l01In.ev _ _ _) ?_)))
    rw [List.drop_eq_getElem_cons hlt, List.all_cons]
    refine ev_ite (fun c1 => ev_some ?_) (fun c1 => Ev.bind (spec_l01In.ev _ _ _) (ev_ite (fun c2 => ev_some ?_) (fun c2 => ?_)))
    · simp at c1
      have : ¬ (1 ≤ (l[n]).f0 ∧ (l[n]).f0 ≤ 1099511627776) := by omega
      simp [rowOk, this]
    · simp at c2
      have : ¬ (1 ≤ (l[n]).f1.length ∧ (l[n]).f1.length ≤ 64) := by omega
      simp [rowOk, this]
    · rw [w64s (by omega)]
      have ih := spec_TableOk.ev0 z l h d (n + 1) (by omega)
      refine ev_to ih ?_
      simp at c1 c2
      have c3 : 1 ≤ (l[n]).f1.length ∧ (l[n]).f1.length ≤ 64 := by omega
      simp [rowOk, c1, c3]
theorem spec_TableOk.ev (z : Bool) (l : List Row) (h : l.length ≤ 1048576) : Ev (fun k => spec_TableOk.f k z (l.map Row.t)) (tabOk l) := by
  refine ev_step ?_
  simp only [spec_TableOk.f, spec_TableOk.b, List.length_map]
  exact ev_to (spec_TableOk.ev0 z l h l.length 0 (by omega)) (by simp [tabOk])
theorem impl_SameBytes.ev (y z : Bool) (a b : List Int) : Ev (fun k => impl_SameBytes.f k y a z b) (sameB a b) := by
  refine ev_step ?_
  simp only [impl_SameBytes.f, impl_SameBytes.b]
  exact ev_some rfl
theorem sameB_comm (a b : List Int) : sameB a b = sameB b a := by simp [sameB, eq_comm]
end Go.Proofs.YthocpcfjfgnkgaaG
namespace Go.Proofs.YthocpcfjfgnkgaaG
open Go Go.Proofs.YthocpcfjfgnkgaaRv Go.RowKit
set_option linter.unusedVariables false
set_option linter.unusedSimpArgs false


def isW (x : Int) : Prop := 0 ≤ x ∧ x ≤ 4294967295
def turn (x n : Int) : Int := Go.bits .and .i64 (Go.bits .or .i64 (shrI .i64 x n) (shlI .i64 x (wrap64 ((32 : Int) - n)))) 4294967295
theorem wraps_i64 (n : Int) (h₀ : 0 ≤ n) (h₁ : n < 2 ^ 63) : IntKind.i64.wrap n = n := by rw [IntKind.wrap_i64]; omega
theorem and_mask (y : Int) : isW (Go.bits .and .i64 y 4294967295) := by
  have h : ∀ n : Nat, n ≤ 4294967295 → isW (IntKind.i64.wrap (n : Int)) := fun n hn => by
    rw [wraps_i64 _ (by omega) (by omega)]
    unfold isW
    omega
  simp only [Go.bits]
  refine h _ ?_
  rw [BitVec.toNat_and]
  refine Nat.le_trans Nat.and_le_right ?_
  decide
theorem bits_w {a b : Nat} (ha : a < 2 ^ 32) (hb : b < 2 ^ 32) : Go.bits .and .i64 (a : Int) b = ((a &&& b : Nat) : Int) ∧ Go.bits .or .i64 (a : Int) b = ((a ||| b : Nat) : Int) ∧ Go.bits .xor .i64 (a : Int) b = ((a ^^^ b : Nat) : Int) := by
  obtain ⟨h1, h2⟩ := bits_nat .i64 63 (by decide) wraps_i64 a b (by omega) (by omega)
  refine ⟨h1, h2, ?_⟩
  have ha' : a % 2 ^ 64 = a := Nat.mod_eq_of_lt (by omega)
  have hb' : b % 2 ^ 64 = b := Nat.mod_eq_of_lt (by omega)
  have hx : a ^^^ b < 2 ^ 32 := Nat.xor_lt_two_pow ha hb
  simp only [Go.bits, BitVec.ofInt_natCast, BitVec.toNat_xor, BitVec.toNat_ofNat]
  show IntKind.i64.wrap (((a % 2 ^ 64) ^^^ (b % 2 ^ 64) : Nat) : Int) = _
  rw [ha', hb']
  exact wraps_i64 _ (by omega) (by omega)
theorem W_nat {x : Int} (h : isW x) : ∃ n : Nat, x = (n : Int) ∧ n < 2 ^ 32 := by
  obtain ⟨n, rfl⟩ := Int.eq_ofNat_of_zero_le h.1
  refine ⟨n, rfl, ?_⟩
  have := h.2
  omega
theorem nat_W {n : Nat} (h : n < 2 ^ 32) : isW (n : Int) := by unfold isW; omega
theorem ch_eq {e f g : Int} (he : isW e) (hf : isW f) (hg : isW g) : Go.bits .or .i64 (Go.bits .and .i64 e f) (Go.bits .and .i64 (Go.bits .xor .i64 e 4294967295) g) = Go.bits .xor .i64 (Go.bits .and .i64 e f) (Go.bits .and .i64 (Go.bits .xor .i64 4294967295 e) g) := by
  obtain ⟨a, rfl, ha⟩ := W_nat he
  obtain ⟨b, rfl, hb⟩ := W_nat hf
  obtain ⟨c, rfl, hc⟩ := W_nat hg
  have hm : (4294967295 : Nat) < 2 ^ 32 := by decide
  have e1 : (4294967295 : Int) = ((4294967295 : Nat) : Int) := rfl
  have h1 : a &&& b < 2 ^ 32 := Nat.and_lt_two_pow _ hb
  have h2 : a ^^^ 4294967295 < 2 ^ 32 := Nat.xor_lt_two_pow ha hm
  have h3 : 4294967295 ^^^ a < 2 ^ 32 := Nat.xor_lt_two_pow hm ha
  rw [e1, (bits_w ha hb).1, (bits_w ha hm).2.2, (bits_w hm ha).2.2, (bits_w h2 hc).1, (bits_w h3 hc).1, (bits_w h1 (Nat.and_lt_two_pow _ hc)).2.1, (bits_w h1 (Nat.and_lt_two_pow _ hc)).2.2]
  congr 1
  apply Nat.eq_of_testBit_eq
  intro i
  simp only [Nat.testBit_or, Nat.testBit_and, Nat.testBit_xor]
  by_cases hi : i < 32
  · have : Nat.testBit 4294967295 i = true := by
      have := Nat.testBit_two_pow_sub_one 32 i
      simpa [hi] using this
    rw [this]
    cases a.testBit i <;> cases b.testBit i <;> cases c.testBit i <;> rfl
  · have z : a.testBit i = false := Nat.testBit_lt_two_pow (Nat.lt_of_lt_of_le ha (Nat.pow_le_pow_right (by decide) (by omega)))
    have y : c.testBit i = false := Nat.testBit_lt_two_pow (Nat.lt_of_lt_of_le hc (Nat.pow_le_pow_right (by decide) (by omega)))
    rw [z, y]
    simp
theorem maj_eq {e f g : Int} (he : isW e) (hf : isW f) (hg : isW g) : Go.bits .or .i64 (Go.bits .or .i64 (Go.bits .and .i64 e f) (Go.bits .and .i64 e g)) (Go.bits .and .i64 f g) = Go.bits .xor .i64 (Go.bits .xor .i64 (Go.bits .and .i64 e f) (Go.bits .and .i64 e g)) (Go.bits .and .i64 f g) := by
  obtain ⟨a, rfl, ha⟩ := W_nat he
  obtain ⟨b, rfl, hb⟩ := W_nat hf
  obtain ⟨c, rfl, hc⟩ := W_nat hg
  have h1 : a &&& b < 2 ^ 32 := Nat.and_lt_two_pow _ hb
  have h2 : a &&& c < 2 ^ 32 := Nat.and_lt_two_pow _ hc
  have h3 : b &&& c < 2 ^ 32 := Nat.and_lt_two_pow _ hc
  rw [(bits_w ha hb).1, (bits_w ha hc).1, (bits_w hb hc).1, (bits_w h1 h2).2.1, (bits_w h1 h2).2.2, (bits_w (Nat.or_lt_two_pow h1 h2) h3).2.1, (bits_w (Nat.xor_lt_two_pow h1 h2) h3).2.2]
  congr 1
  apply Nat.eq_of_testBit_eq
  intro i
  simp only [Nat.testBit_or, Nat.testBit_and, Nat.testBit_xor]
  cases a.testBit i <;> cases b.testBit i <;> cases c.testBit i <;> rfl

theorem impl_isWord.ev (x : Int) : Ev (fun k => impl_isWord.f k x) (decide (0 ≤ x ∧ x ≤ 4294967295)) := by
  refine ev_step ?_
  simp only [impl_isWord.f, impl_isWord.b]
  exact Ev.bind (impl_within.ev _ _ _) (ev_some rfl)
theorem spec_l04Word.ev (x : Int) : Ev (fun k => spec_l04Word.f k x) (decide (0 ≤ x ∧ x ≤ 4294967295)) := by
  refine ev_step ?_
  simp only [spec_l04Word.f, spec_l04Word.b]
  exact Ev.bind (spec_l01In.ev _ _ _) (ev_some rfl)
theorem impl_TurnRight.ev (x n : Int) (hx : isW x) (h0 : 0 ≤ n) (h1 : n ≤ 31) : Ev (fun k => impl_TurnRight.f k x n) (turn x n) := by
  have := hx.1
  have := hx.2
  refine ev_step ?_
  simp only [impl_TurnRight.f, impl_TurnRight.b]
  refine Ev.bind (impl_isWord.ev x) (ev_neg (by simp; omega) (Ev.bind (impl_within.ev _ _ _) (ev_neg (by simp; omega) (ev_pos h0 (ev_pos (by unfold wrap64; omega) (ev_some rfl))))))
theorem spec_l04Turn.ev (x n : Int) (h0 : 0 ≤ n) (h1 : n ≤ 31) : Ev (fun k => spec_l04Turn.f k x n) (turn x n) := by
  refine ev_step ?_
  simp only [spec_l04Turn.f, spec_l04Turn.b]
  exact ev_pos h0 (ev_pos (by unfold wrap64; omega) (ev_some rfl))


theorem rdI_nat {l : List Int} {n : Nat} (h : n < l.length) : rdI l (n : Int) = l[n] := by simp [rdI, h]
def Ws (l : List Int) : Prop := ∀ x ∈ l, isW x
theorem Ws_rd {l : List Int} (h : Ws l) (i : Int) : isW (rdI l i) := by
  unfold rdI
  by_cases hi : i.toNat < l.length
  · rw [List.getD_eq_getElem?_getD, List.getElem?_eq_getElem hi]
    exact h _ (List.getElem_mem hi)
  · rw [List.getD_eq_getElem?_getD, List.getElem?_eq_none (by omega)]
    show isW 0
    unfold isW
    omega

def wb (b : List Int) (i : Nat) : Int := Go.bits .or .i64 (Go.bits .or .i64 (Go.bits .or .i64 (shlI .i64 (wrap64 (rdI b ((4 * i : Nat) : Int))) 24) (shlI .i64 (wrap64 (rdI b ((4 * i + 1 : Nat) : Int))) 16)) (shlI .i64 (wrap64 (rdI b ((4 * i + 2 : Nat) : Int))) 8)) (wrap64 (rdI b ((4 * i + 3 : Nat) : Int)))

def sc (w : List Int) : Int :=
  let x := rdI w ((w.length - 15 : Nat) : Int)
  let y := rdI w ((w.length - 2 : Nat) : Int)
  Go.bits .and .i64 (wrap64 (wrap64 (wrap64 (rdI w ((w.length - 16 : Nat) : Int) + Go.bits .xor .i64 (Go.bits .xor .i64 (turn x 7) (turn x 18)) (shrI .i64 x 3)) + rdI w ((w.length - 7 : Nat) : Int)) + Go.bits .xor .i64 (Go.bits .xor .i64 (turn y 17) (turn y 19)) (shrI .i64 y 10))) 4294967295
def grow (w : List Int) : Nat → List Int
  | 0 => w
  | d + 1 => grow (w ++ [sc w]) d
def rnd (K W : List Int) (i : Nat) (v : List Int) : List Int :=
  let t := wrap64 (wrap64 (wrap64 (wrap64 (rdI v 7 + Go.bits .xor .i64 (Go.bits .xor .i64 (turn (rdI v 4) 6) (turn (rdI v 4) 11)) (turn (rdI v 4) 25)) + Go.bits .xor .i64 (Go.bits .and .i64 (rdI v 4) (rdI v 5)) (Go.bits .and .i64 (Go.bits .xor .i64 4294967295 (rdI v 4)) (rdI v 6))) + rdI K (i : Int)) + rdI W (i : Int))
  let u := wrap64 (Go.bits .xor .i64 (Go.bits .xor .i64 (turn (rdI v 0) 2) (turn (rdI v 0) 13)) (turn (rdI v 0) 22) + Go.bits .xor .i64 (Go.bits .xor .i64 (Go.bits .and .i64 (rdI v 0) (rdI v 1)) (Go.bits .and .i64 (rdI v 0) (rdI v 2))) (Go.bits .and .i64 (rdI v 1) (rdI v 2)))
  [Go.bits .and .i64 (wrap64 (t + u)) 4294967295, rdI v 0, rdI v 1, rdI v 2, Go.bits .and .i64 (wrap64 (rdI v 3 + t)) 4294967295, rdI v 4, rdI v 5, rdI v 6]
def rnds (K W : List Int) : Nat → Nat → List Int → List Int
  | 0, _, v => v
  | d + 1, i, v => rnds K W d (i + 1) (rnd K W i v)
def outs (h v : List Int) (n : Nat) : List Int := (List.range n).map fun (i : Nat) => Go.bits .and .i64 (wrap64 (rdI h (i : Int) + rdI v (i : Int))) 4294967295
def shaK : List Int := [1116352408, 1899447441, 3049323471, 3921009573, 961987163, 1508970993, 2453635748, 2870763221, 3624381080, 310598401, 607225278, 1426881987, 1925078388, 2162078206, 2614888103, 3248222580, 3835390401, 4022224774, 264347078, 604807628, 770255983, 1249150122, 1555081692, 1996064986, 2554220882, 2821834349, 2952996808, 3210313671, 3336571891, 3584528711, 113926993, 338241895, 666307205, 773529912, 1294757372, 1396182291, 1695183700, 1986661051, 2177026350, 2456956037, 2730485921, 2820302411, 3259730800, 3345764771, 3516065817, 3600352804, 4094571909, 275423344, 430227734, 506948616, 659060556, 883997877, 958139571, 1322822218, 1537002063, 1747873779, 1955562222, 2024104815, 2227730452, 2361852424, 2428436474, 2756734187, 3204031479, 3329325298]
def shaW (b : List Int) : List Int := grow ((List.range 16).map (wb b)) 48
def shaBlk (h b : List Int) : List Int := outs h (rnds shaK (shaW b) 64 0 h) 8
def bytesOk (b : List Int) : Prop := ∀ x ∈ b, 0 ≤ x ∧ x < 256

theorem grow_W : ∀ (d : Nat) (w : List Int), Ws w → Ws (grow w d)
  | 0, w, h => h
  | d + 1, w, h => grow_W d _ fun x hx => by
    rcases List.mem_append.1 hx with hx | hx
    · exact h x hx
    · rw [List.mem_singleton.1 hx]; exact and_mask _
theorem rnd_W (K W : List Int) (i : Nat) {v : List Int} (h : Ws v) : Ws (rnd K W i v) ∧ (rnd K W i v).length = 8 := by
  refine ⟨fun x hx => ?_, rfl⟩
  simp only [rnd, List.mem_cons, List.not_mem_nil, or_false] at hx
  rcases hx with rfl | rfl | rfl | rfl | rfl | rfl | rfl | rfl <;> first | exact and_mask _ | exact Ws_rd h _
theorem outs_W (h v : List Int) (n : Nat) : Ws (outs h v n) ∧ (outs h v n).length = n := by
  refine ⟨fun x hx => ?_, by simp [outs]⟩
  obtain ⟨i, _, rfl⟩ := List.mem_map.1 hx
  exact and_mask _
theorem byte_shl {x : Int} (h0 : 0 ≤ x) (h1 : x < 256) (s : Nat) (hs : s ≤ 24) : ∃ n : Nat, shlI .i64 (wrap64 x) (s : Int) = (n : Int) ∧ n < 2 ^ 32 := by
  obtain ⟨n, rfl⟩ := Int.eq_ofNat_of_zero_le h0
  rw [w64 (by omega) (by omega)]
  have hp : (2 : Nat) ^ s ≤ 2 ^ 24 := Nat.pow_le_pow_right (by decide) hs
  have hlt : n * 2 ^ s < 2 ^ 32 := by
    have : n * 2 ^ s ≤ 255 * 2 ^ 24 := Nat.mul_le_mul (by omega) hp
    omega
  refine ⟨n * 2 ^ s, ?_, hlt⟩
  unfold shlI
  have e : min ((s : Int)).toNat (IntKind.bits .i64) = s := by
    have : IntKind.bits .i64 = 64 := rfl
    rw [this, Int.toNat_natCast]
    omega
  have e2 : ((n : Int) * 2 ^ s) = ((n * 2 ^ s : Nat) : Int) := by push_cast; rfl
  rw [e, e2]
  exact wraps_i64 _ (by omega) (by omega)
theorem rd_byte {b : List Int} (h : bytesOk b) (i : Int) : 0 ≤ rdI b i ∧ rdI b i < 256 := by
  unfold rdI
  by_cases hi : i.toNat < b.length
  · rw [List.getD_eq_getElem?_getD, List.getElem?_eq_getElem hi]
    exact h _ (List.getElem_mem hi)
  · rw [List.getD_eq_getElem?_getD, List.getElem?_eq_none (by omega)]
    exact ⟨by simp, by simp⟩
theorem wb_W {b : List Int} (h : bytesOk b) (i : Nat) : isW (wb b i) := by
  unfold wb
  obtain ⟨n1, e1, l1⟩ := byte_shl (rd_byte h ((4 * i : Nat) : Int)).1 (rd_byte h _).2 24 (by omega)
  obtain ⟨n2, e2, l2⟩ := byte_shl (rd_byte h ((4 * i + 1 : Nat) : Int)).1 (rd_byte h _).2 16 (by omega)
  obtain ⟨n3, e3, l3⟩ := byte_shl (rd_byte h ((4 * i + 2 : Nat) : Int)).1 (rd_byte h _).2 8 (by omega)
  have h4 := rd_byte h ((4 * i + 3 : Nat) : Int)
  have e4 := w64 (n := rdI b ((4 * i + 3 : Nat) : Int)) (by omega) (by omega)
  rw [e4]
  obtain ⟨n4, e5⟩ := Int.eq_ofNat_of_zero_le h4.1
  have l4 : n4 < 2 ^ 32 := by omega
  have f1 : shlI .i64 (wrap64 (rdI b ((4 * i : Nat) : Int))) 24 = (n1 : Int) := e1
  have f2 : shlI .i64 (wrap64 (rdI b ((4 * i + 1 : Nat) : Int))) 16 = (n2 : Int) := e2
  have f3 : shlI .i64 (wrap64 (rdI b ((4 * i + 2 : Nat) : Int))) 8 = (n3 : Int) := e3
  rw [f1, f2, f3, e5, (bits_w l1 l2).2.1, (bits_w (Nat.or_lt_two_pow l1 l2) l3).2.1, (bits_w (Nat.or_lt_two_pow (Nat.or_lt_two_pow l1 l2) l3) l4).2.1]
  exact nat_W (Nat.or_lt_two_pow (Nat.or_lt_two_pow (Nat.or_lt_two_pow l1 l2) l3) l4)
end Go.Proofs.YthocpcfjfgnkgaaG
namespace Go.Proofs.YthocpcfjfgnkgaaG
open Go Go.Proofs.YthocpcfjfgnkgaaRv Go.RowKit
set_option linter.unusedVariables false
set_option linter.unusedSimpArgs false

theorem rdI_app {l m : List Int} {n : Nat} (h : n < l.length) : rdI (l ++ m) (n : Int) = rdI l (n : Int) := by simp [rdI, List.getD_eq_getElem?_getD, List.getElem?_append_left h]
def pad (w : List Int) : List Int := w ++ List.replicate (64 - w.length) 0
theorem pad_rd {w : List Int} {n : Nat} (h : n < w.length) : rdI (pad w) (n : Int) = rdI w (n : Int) := rdI_app h
theorem pad_set {w : List Int} (h : w.length < 64) (x : Int) : (pad w).set w.length x = pad (w ++ [x]) := by
  unfold pad
  rw [List.set_append_right _ _ (Nat.le_refl _), Nat.sub_self, List.append_assoc]
  have : 64 - w.length = (64 - (w ++ [x]).length) + 1 := by simp; omega
  rw [this, List.replicate_succ]
  simp

theorem sc_def (w : List Int) : sc w = Go.bits .and .i64 (wrap64 (wrap64 (wrap64 (rdI w ((w.length - 16 : Nat) : Int) + Go.bits .xor .i64 (Go.bits .xor .i64 (turn (rdI w ((w.length - 15 : Nat) : Int)) 7) (turn (rdI w ((w.length - 15 : Nat) : Int)) 18)) (shrI .i64 (rdI w ((w.length - 15 : Nat) : Int)) 3)) + rdI w ((w.length - 7 : Nat) : Int)) + Go.bits .xor .i64 (Go.bits .xor .i64 (turn (rdI w ((w.length - 2 : Nat) : Int)) 17) (turn (rdI w ((w.length - 2 : Nat) : Int)) 19)) (shrI .i64 (rdI w ((w.length - 2 : Nat) : Int)) 10))) 4294967295 := rfl
section
variable (y0 y1 y2 : Bool) (h b : List Int)

theorem impl_rounds.ev : Ev (fun k => impl_rounds.f k) (false, shaK) := by
  refine ev_step ?_
  simp only [impl_rounds.f, impl_rounds.b]
  exact ev_some rfl
theorem spec_l04K.ev : Ev (fun k => spec_l04K.f k) (false, shaK) := by
  refine ev_step ?_
  simp only [spec_l04K.f, spec_l04K.b]
  exact ev_some rfl


theorem impl_ShaBlock.ev4 (v : List Int) (hh : h.length = 8) : ∀ (d i : Nat), i + d = 8 → Ev (fun k => impl_ShaBlock.l4 k y0 h (outs h v i) (i : Int) v) (false, outs h v 8)
  | 0, i, hi => by
    obtain rfl : i = 8 := by omega
    refine ev_step ?_
    simp only [impl_ShaBlock.l4, impl_ShaBlock.l4b]
    exact ev_neg (by omega) (ev_some rfl)
  | d + 1, i, hi => by
    refine ev_step ?_
    simp only [impl_ShaBlock.l4, impl_ShaBlock.l4b]
    have hl := (outs_W h v i).2
    refine ev_pos (by omega) (ev_pos (by omega) (ev_pos (by omega) (ev_pos (by omega) (ev_pos (by omega) (ev_pos (by omega) ?_)))))
    have e : wrap64 ((i : Int) + 1) = ((i + 1 : Nat) : Int) := by unfold wrap64; omega
    rw [e]
    have e2 : outs h v i ++ [Go.bits .and .i64 (wrap64 (rdI h (i : Int) + rdI v (i : Int))) 4294967295] = outs h v (i + 1) := by simp [outs, List.range_succ]
    rw [e2]
    exact impl_ShaBlock.ev4 v hh d (i + 1) (by omega)
theorem impl_ShaBlock.ev3 (hh : h.length = 8) (W : List Int) (hW : Ws W) (hWl : W.length = 64) : ∀ (d i : Nat) (v : List Int), i + d = 64 → Ws v → v.length = 8 → Ev (fun k => impl_ShaBlock.l3 k y0 h false shaK (i : Int) W v) (false, outs h (rnds shaK W d i v) 8)
  | 0, i, v, hi, hv, hl => by
    obtain rfl : i = 64 := by omega
    refine ev_step ?_
    simp only [impl_ShaBlock.l3, impl_ShaBlock.l3b]
    exact ev_neg (by omega) (impl_ShaBlock.ev4 y0 h v hh 8 0 (by omega))
  | d + 1, i, v, hi, hv, hl => by
    refine ev_step ?_
    simp only [impl_ShaBlock.l3, impl_ShaBlock.l3b]
    have hk : shaK.length = 64 := rfl
    have r := fun j => Ws_rd hv j
    refine ev_pos (by omega) (Ev.bind (impl_TurnRight.ev _ _ (r 4) (by omega) (by omega)) (Ev.bind (impl_TurnRight.ev _ _ (r 4) (by omega) (by omega)) (Ev.bind (impl_TurnRight.ev _ _ (r 4) (by omega) (by omega)) ?_)))
    refine ev_pos (by omega) (ev_pos (by omega) (ev_pos (by omega) (ev_pos (by omega) ?_)))
    refine Ev.bind (impl_TurnRight.ev _ _ (r 0) (by omega) (by omega)) (Ev.bind (impl_TurnRight.ev _ _ (r 0) (by omega) (by omega)) (Ev.bind (impl_TurnRight.ev _ _ (r 0) (by omega) (by omega)) ?_))
    have e : wrap64 ((i : Int) + 1) = ((i + 1 : Nat) : Int) := by unfold wrap64; omega
    rw [e, ch_eq (r 4) (r 5) (r 6), maj_eq (r 0) (r 1) (r 2)]
    exact impl_ShaBlock.ev3 hh W hW hWl d (i + 1) (rnd shaK W i v) (by omega) (rnd_W _ _ _ hv).1 rfl
theorem impl_ShaBlock.ev2 (hh : h.length = 8) (hw : Ws h) : ∀ (d : Nat) (W : List Int), W.length + d = 64 → 16 ≤ W.length → Ws W → Ev (fun k => impl_ShaBlock.l2 k y0 h false shaK (W.length : Int) (pad W)) (false, outs h (rnds shaK (grow W d) 64 0 h) 8)
  | 0, W, hi, h16, hW => by
    refine ev_step ?_
    simp only [impl_ShaBlock.l2, impl_ShaBlock.l2b]
    have e : h.take 8 ++ ([0, 0, 0, 0, 0, 0, 0, 0] : List Int).drop h.length = h := by
      rw [List.take_of_length_le (by omega), hh]
      simp
    have ep : pad W = W := by
      have : 64 - W.length = 0 := by omega
      simp [pad, this]
    rw [e, ep]
    exact ev_neg (by omega) (impl_ShaBlock.ev3 y0 h hh W hW (by omega) 64 0 h (by omega) hw hh)
  | d + 1, W, hi, h16, hW => by
    have hw2 : W.length < 64 := by omega
    have hl : (W ++ [sc W]).length = W.length + 1 := by simp
    have ih := impl_ShaBlock.ev2 hh hw d (W ++ [sc W]) (by omega) (by omega) (grow_W 1 W hW)
    rw [hl, ← pad_set hw2] at ih
    refine ev_step ?_
    simp only [impl_ShaBlock.l2, impl_ShaBlock.l2b]
    have a15 : wrap64 ((W.length : Int) - 15) = ((W.length - 15 : Nat) : Int) := by unfold wrap64; omega
    have a2 : wrap64 ((W.length : Int) - 2) = ((W.length - 2 : Nat) : Int) := by unfold wrap64; omega
    have a16 : wrap64 ((W.length : Int) - 16) = ((W.length - 16 : Nat) : Int) := by unfold wrap64; omega
    have a7 : wrap64 ((W.length : Int) - 7) = ((W.length - 7 : Nat) : Int) := by unfold wrap64; omega
    rw [a15, a2, a16, a7, pad_rd (n := W.length - 15) (by omega), pad_rd (n := W.length - 2) (by omega), pad_rd (n := W.length - 16) (by omega), pad_rd (n := W.length - 7) (by omega)]
    clear a15 a2 a16 a7
    have r := fun j => Ws_rd hW j
    refine ev_pos (by omega) (ev_pos (by omega) (ev_pos (by omega) (ev_pos (by omega) (ev_pos (by omega) ?_))))
    refine Ev.bind (impl_TurnRight.ev _ _ (r _) (by omega) (by omega)) (Ev.bind (impl_TurnRight.ev _ _ (r _) (by omega) (by omega)) (Ev.bind (impl_TurnRight.ev _ _ (r _) (by omega) (by omega)) (Ev.bind (impl_TurnRight.ev _ _ (r _) (by omega) (by omega)) ?_)))
    refine ev_pos (by omega) (ev_pos (by omega) (ev_pos (by omega) (ev_pos (by omega) (ev_pos (by omega) (ev_pos (by omega) ?_)))))
    have e : wrap64 ((W.length : Int) + 1) = ((W.length + 1 : Nat) : Int) := by unfold wrap64; omega
    rw [e, Int.toNat_natCast, ← sc_def]
    exact ih
theorem impl_ShaBlock.ev1 (hh : h.length = 8) (hw : Ws h) (hb : b.length = 64) (hbb : bytesOk b) : ∀ (d i : Nat), i + d = 16 → Ev (fun k => impl_ShaBlock.l1 k y0 h y1 b false shaK (i : Int) (pad ((List.range i).map (wb b)))) (false, shaBlk h b)
  | 0, i, hi => by
    obtain rfl : i = 16 := by omega
    refine ev_step ?_
    simp only [impl_ShaBlock.l1, impl_ShaBlock.l1b]
    have := impl_ShaBlock.ev2 y0 h hh hw 48 ((List.range 16).map (wb b)) (by simp) (by simp) (fun x hx => by
      obtain ⟨i, _, rfl⟩ := List.mem_map.1 hx
      exact wb_W hbb i)
    have hl : ((List.range 16).map (wb b)).length = 16 := by simp
    rw [hl] at this
    exact ev_neg (by omega) this
  | d + 1, i, hi => by
    refine ev_step ?_
    simp only [impl_ShaBlock.l1, impl_ShaBlock.l1b]
    have e4 : wrap64 ((4 : Int) * (i : Int)) = ((4 * i : Nat) : Int) := by unfold wrap64; omega
    have e41 : wrap64 (((4 * i : Nat) : Int) + 1) = ((4 * i + 1 : Nat) : Int) := by unfold wrap64; omega
    have e42 : wrap64 (((4 * i : Nat) : Int) + 2) = ((4 * i + 2 : Nat) : Int) := by unfold wrap64; omega
    have e43 : wrap64 (((4 * i : Nat) : Int) + 3) = ((4 * i + 3 : Nat) : Int) := by unfold wrap64; omega
    have e : wrap64 ((i : Int) + 1) = ((i + 1 : Nat) : Int) := by unfold wrap64; omega
    rw [e4, e41, e42, e43, e]
    clear e4 e41 e42 e43 e
    refine ev_pos (by omega) (ev_pos (by omega) (ev_pos (by omega) (ev_pos (by omega) (ev_pos (by omega) (ev_pos (by omega) (ev_pos (by omega) (ev_pos (by omega) (ev_pos (by omega) (ev_pos (by omega) (ev_pos (by omega) ?_))))))))))
    have ih := impl_ShaBlock.ev1 hh hw hb hbb d (i + 1) (by omega)
    have hs := pad_set (w := (List.range i).map (wb b)) (by simp; omega) (wb b i)
    have hl : ((List.range i).map (wb b)).length = i := by simp
    rw [hl] at hs
    rw [List.range_succ, List.map_append, List.map_singleton, ← hs] at ih
    rw [Int.toNat_natCast]
    exact ih
theorem impl_ShaBlock.ev0 (hh : h.length = 8) (hw : Ws h) (hb : b.length = 64) (hbb : bytesOk b) : ∀ (d i : Nat), i + d = 8 → Ev (fun k => impl_ShaBlock.l0 k y0 h y1 b y2 h (h.length : Int) (i : Int)) (false, shaBlk h b)
  | 0, i, hi => by
    obtain rfl : i = 8 := by omega
    refine ev_step ?_
    simp only [impl_ShaBlock.l0, impl_ShaBlock.l0b]
    exact ev_neg (by omega) (Ev.bind impl_rounds.ev (impl_ShaBlock.ev1 y0 y1 h b hh hw hb hbb 16 0 (by omega)))
  | d + 1, i, hi => by
    refine ev_step ?_
    simp only [impl_ShaBlock.l0, impl_ShaBlock.l0b]
    have e : wrap64 ((i : Int) + 1) = ((i + 1 : Nat) : Int) := by unfold wrap64; omega
    have hx := Ws_rd hw (i : Int)
    rw [e]
    exact ev_pos (by omega) (ev_pos (by omega) (ev_pos (by omega) (Ev.bind (impl_isWord.ev _) (ev_neg (by simp [hx.1, hx.2]) (impl_ShaBlock.ev0 hh hw hb hbb d (i + 1) (by omega))))))
theorem impl_ShaBlock.ev (hh : h.length = 8) (hw : Ws h) (hb : b.length = 64) (hbb : bytesOk b) : Ev (fun k => impl_ShaBlock.f k y0 h y1 b) (false, shaBlk h b) := by
  refine ev_step ?_
  simp only [impl_ShaBlock.f, impl_ShaBlock.b]
  exact ev_neg (by simp; omega) (ev_neg (by simp; omega) (impl_ShaBlock.ev0 y0 y1 y0 h b hh hw hb hbb 8 0 (by omega)))


theorem spec_ShaBlock.ev4 (v : List Int) (hh : h.length = 8) (hv : v.length = 8) : ∀ (d i : Nat), i + d = 8 → Ev (fun k => spec_ShaBlock.l4 k y0 h y1 v (outs h v i) (h.length : Int) (i : Int)) (false, outs h v 8)
  | 0, i, hi => by
    obtain rfl : i = 8 := by omega
    refine ev_step ?_
    simp only [spec_ShaBlock.l4, spec_ShaBlock.l4b]
    exact ev_neg (by omega) (ev_some rfl)
  | d + 1, i, hi => by
    refine ev_step ?_
    simp only [spec_ShaBlock.l4, spec_ShaBlock.l4b]
    have hl := (outs_W h v i).2
    refine ev_pos (by omega) (ev_pos (by omega) (ev_pos (by omega) (ev_pos (by omega) (ev_pos (by omega) (ev_pos (by omega) ?_)))))
    have e : wrap64 ((i : Int) + 1) = ((i + 1 : Nat) : Int) := by unfold wrap64; omega
    rw [e]
    have e2 : outs h v i ++ [Go.bits .and .i64 (wrap64 (rdI h (i : Int) + rdI v (i : Int))) 4294967295] = outs h v (i + 1) := by simp [outs, List.range_succ]
    rw [e2]
    exact spec_ShaBlock.ev4 v hh hv d (i + 1) (by omega)
theorem spec_ShaBlock.ev3 (hh : h.length = 8) (W : List Int) (hWl : W.length = 64) : ∀ (d i : Nat) (z : Bool) (v : List Int), i + d = 64 → v.length = 8 → Ev (fun k => spec_ShaBlock.l3 k y0 h W false shaK z v (i : Int)) (false, outs h (rnds shaK W d i v) 8)
  | 0, i, z, v, hi, hl => by
    obtain rfl : i = 64 := by omega
    refine ev_step ?_
    simp only [spec_ShaBlock.l3, spec_ShaBlock.l3b]
    exact ev_neg (by omega) (spec_ShaBlock.ev4 y0 z h v hh hl 8 0 (by omega))
  | d + 1, i, z, v, hi, hl => by
    refine ev_step ?_
    simp only [spec_ShaBlock.l3, spec_ShaBlock.l3b]
    have hk : shaK.length = 64 := rfl
    have e : wrap64 ((i : Int) + 1) = ((i + 1 : Nat) : Int) := by unfold wrap64; omega
    rw [e]
    refine ev_pos (by omega) (ev_pos (by omega) (ev_pos (by omega) (ev_pos (by omega) ?_)))
    refine Ev.bind (spec_l04Turn.ev _ _ (by omega) (by omega)) (Ev.bind (spec_l04Turn.ev _ _ (by omega) (by omega)) (Ev.bind (spec_l04Turn.ev _ _ (by omega) (by omega)) ?_))
    refine ev_pos (by omega) (ev_pos (by omega) (ev_pos (by omega) (ev_pos (by omega) (ev_pos (by omega) (ev_pos (by omega) ?_)))))
    refine Ev.bind (spec_l04Turn.ev _ _ (by omega) (by omega)) (Ev.bind (spec_l04Turn.ev _ _ (by omega) (by omega)) (Ev.bind (spec_l04Turn.ev _ _ (by omega) (by omega)) ?_))
    refine ev_pos (by omega) (ev_pos (by omega) (ev_pos (by omega) (ev_pos (by omega) (ev_pos (by omega) (ev_pos (by omega) (ev_pos (by omega) (ev_pos (by omega) (ev_pos (by omega) (ev_pos (by omega) (ev_pos (by omega) ?_))))))))))
    exact spec_ShaBlock.ev3 hh W hWl d (i + 1) false (rnd shaK W i v) (by omega) rfl
theorem spec_ShaBlock.ev2 (hh : h.length = 8) : ∀ (d : Nat) (W : List Int), W.length + d = 64 → 16 ≤ W.length → Ev (fun k => spec_ShaBlock.l2 k y0 h W (W.length : Int)) (false, outs h (rnds shaK (grow W d) 64 0 h) 8)
  | 0, W, hi, h16 => by
    refine ev_step ?_
    simp only [spec_ShaBlock.l2, spec_ShaBlock.l2b]
    exact ev_neg (by omega) (Ev.bind spec_l04K.ev (ev_pos (by omega) (spec_ShaBlock.ev3 y0 h hh W (by omega) 64 0 _ h (by omega) hh)))
  | d + 1, W, hi, h16 => by
    have hl : (W ++ [sc W]).length = W.length + 1 := by simp
    have ih := spec_ShaBlock.ev2 hh d (W ++ [sc W]) (by omega) (by omega)
    rw [hl] at ih
    refine ev_step ?_
    simp only [spec_ShaBlock.l2, spec_ShaBlock.l2b]
    have a15 : wrap64 ((W.length : Int) - 15) = ((W.length - 15 : Nat) : Int) := by unfold wrap64; omega
    have a2 : wrap64 ((W.length : Int) - 2) = ((W.length - 2 : Nat) : Int) := by unfold wrap64; omega
    have a16 : wrap64 ((W.length : Int) - 16) = ((W.length - 16 : Nat) : Int) := by unfold wrap64; omega
    have a7 : wrap64 ((W.length : Int) - 7) = ((W.length - 7 : Nat) : Int) := by unfold wrap64; omega
    have e : wrap64 ((W.length : Int) + 1) = ((W.length + 1 : Nat) : Int) := by unfold wrap64; omega
    rw [a15, a2, a16, a7, e]
    clear a15 a2 a16 a7 e
    refine ev_pos (by omega) (ev_pos (by omega) (ev_pos (by omega) (ev_pos (by omega) (ev_pos (by omega) ?_))))
    refine Ev.bind (spec_l04Turn.ev _ _ (by omega) (by omega)) (Ev.bind (spec_l04Turn.ev _ _ (by omega) (by omega)) (Ev.bind (spec_l04Turn.ev _ _ (by omega) (by omega)) (Ev.bind (spec_l04Turn.ev _ _ (by omega) (by omega)) ?_)))
    refine ev_pos (by omega) (ev_pos (by omega) (ev_pos (by omega) (ev_pos (by omega) (ev_pos (by omega) ?_))))
    rw [← sc_def]
    exact ih
theorem spec_ShaBlock.ev1 (hh : h.length = 8) (hb : b.length = 64) : ∀ (d i : Nat), i + d = 16 → Ev (fun k => spec_ShaBlock.l1 k y0 h y1 b ((List.range i).map (wb b)) ((4 * i : Nat) : Int)) (false, shaBlk h b)
  | 0, i, hi => by
    obtain rfl : i = 16 := by omega
    refine ev_step ?_
    simp only [spec_ShaBlock.l1, spec_ShaBlock.l1b]
    have := spec_ShaBlock.ev2 y0 h hh 48 ((List.range 16).map (wb b)) (by simp) (by simp)
    have hl : ((List.range 16).map (wb b)).length = 16 := by simp
    rw [hl] at this
    exact ev_neg (by omega) this
  | d + 1, i, hi => by
    refine ev_step ?_
    simp only [spec_ShaBlock.l1, spec_ShaBlock.l1b]
    have e41 : wrap64 (((4 * i : Nat) : Int) + 1) = ((4 * i + 1 : Nat) : Int) := by unfold wrap64; omega
    have e42 : wrap64 (((4 * i : Nat) : Int) + 2) = ((4 * i + 2 : Nat) : Int) := by unfold wrap64; omega
    have e43 : wrap64 (((4 * i : Nat) : Int) + 3) = ((4 * i + 3 : Nat) : Int) := by unfold wrap64; omega
    have e44 : wrap64 (((4 * i : Nat) : Int) + 4) = ((4 * (i + 1) : Nat) : Int) := by unfold wrap64; omega
    rw [e41, e42, e43, e44]
    clear e41 e42 e43 e44
    have hl : ((List.range i).map (wb b)).length = i := by simp
    refine ev_pos (by omega) (ev_pos (by omega) (ev_pos (by omega) (ev_pos (by omega) (ev_pos (by omega) (ev_pos (by omega) (ev_pos (by omega) (ev_pos (by omega) (ev_pos (by omega) (ev_pos (by omega) ?_)))))))))
    have ih := spec_ShaBlock.ev1 hh hb d (i + 1) (by omega)
    rw [List.range_succ, List.map_append, List.map_singleton] at ih
    exact ih
theorem spec_ShaBlock.ev0 (hh : h.length = 8) (hw : Ws h) (hb : b.length = 64) : ∀ (d i : Nat), i + d = 8 → Ev (fun k => spec_ShaBlock.l0 k y0 h y1 b y2 h (h.length : Int) (i : Int)) (false, shaBlk h b)
  | 0, i, hi => by
    obtain rfl : i = 8 := by omega
    refine ev_step ?_
    simp only [spec_ShaBlock.l0, spec_ShaBlock.l0b]
    exact ev_neg (by omega) (spec_ShaBlock.ev1 y0 y1 h b hh hb 16 0 (by omega))
  | d + 1, i, hi => by
    refine ev_step ?_
    simp only [spec_ShaBlock.l0, spec_ShaBlock.l0b]
    have e : wrap64 ((i : Int) + 1) = ((i + 1 : Nat) : Int) := by unfold wrap64; omega
    have hx := Ws_rd hw (i : Int)
    rw [e]
    exact ev_pos (by omega) (ev_pos (by omega) (ev_pos (by omega) (Ev.bind (spec_l04Word.ev _) (ev_neg (by simp [hx.1, hx.2]) (spec_ShaBlock.ev0 hh hw hb d (i + 1) (by omega))))))
theorem spec_ShaBlock.ev (hh : h.length = 8) (hw : Ws h) (hb : b.length = 64) : Ev (fun k => spec_ShaBlock.f k y0 h y1 b) (false, shaBlk h b) := by
  refine ev_step ?_
  simp only [spec_ShaBlock.f, spec_ShaBlock.b]
  exact ev_neg (by simp; omega) (ev_neg (by simp; omega) (spec_ShaBlock.ev0 y0 y1 y0 h b hh hw hb 8 0 (by omega)))
theorem shaBlk_W : Ws (shaBlk h b) ∧ (shaBlk h b).length = 8 := outs_W _ _ _
end
end Go.Proofs.YthocpcfjfgnkgaaG
namespace Go.Proofs.YthocpcfjfgnkgaaG
open Go Go.Proofs.YthocpcfjfgnkgaaRv Go.RowKit
set_option linter.unusedVariables false
set_option linter.unusedSimpArgs false


def padz : Nat → List Int → List Int
  | 0, l => l
  | d + 1, l => if l.length % 64 = 56 then l else padz d (l ++ [0])
theorem padz_spec : ∀ (d : Nat) (l : List Int), (∃ j, j ≤ d ∧ (l.length + j) % 64 = 56) → (padz d l).length % 64 = 56 ∧ (padz d l).length ≤ l.length + d ∧ (bytesOk l → bytesOk (padz d l))
  | 0, l, ⟨j, h1, h2⟩ => by
    obtain rfl : j = 0 := by omega
    exact ⟨by simpa [padz] using h2, by simp [padz], fun h => h⟩
  | d + 1, l, ⟨j, h1, h2⟩ => by
    unfold padz
    split
    · rename_i h
      exact ⟨h, by omega, fun h => h⟩
    · rename_i h
      have hj : j ≠ 0 := fun e => h (by rw [← h2, e, Nat.add_zero])
      obtain ⟨p1, p2, p3⟩ := padz_spec d (l ++ [0]) ⟨j - 1, by omega, by simp only [List.length_append, List.length_singleton]; rw [← h2]; congr 1; omega⟩
      refine ⟨p1, by simp only [List.length_append, List.length_singleton] at p2; omega, fun hb => p3 fun x hx => ?_⟩
      rcases List.mem_append.1 hx with hx | hx
      · exact hb x hx
      · rw [List.mem_singleton.1 hx]; omega
def padl (n : Int) : Nat → List Int → List Int
  | 0, l => l
  | d + 1, l => padl n d (l ++ [(shrI .i64 n (wrap64 ((8 : Int) * (d : Int)))) % 256])
theorem padl_spec (n : Int) : ∀ (d : Nat) (l : List Int), (padl n d l).length = l.length + d ∧ (bytesOk l → bytesOk (padl n d l))
  | 0, l => ⟨rfl, fun h => h⟩
  | d + 1, l => by
    obtain ⟨h1, h2⟩ := padl_spec n d (l ++ [(shrI .i64 n (wrap64 ((8 : Int) * (d : Int)))) % 256])
    refine ⟨by rw [padl, h1]; simp; omega, fun hb => h2 fun x hx => ?_⟩
    rcases List.mem_append.1 hx with hx | hx
    · exact hb x hx
    · rw [List.mem_singleton.1 hx]; omega
def shaPadV (l : List Int) : List Int := padl (wrap64 ((8 : Int) * (l.length : Int))) 8 (padz 64 (l ++ [128]))
theorem mod_ex (n : Nat) : ∃ j, j ≤ 64 ∧ (n + j) % 64 = 56 := ⟨(56 + 64 - n % 64) % 64, by omega, by omega⟩
theorem shaPadV_spec (l : List Int) (hb : bytesOk l) : (shaPadV l).length % 64 = 0 ∧ (shaPadV l).length ≤ l.length + 73 ∧ bytesOk (shaPadV l) := by
  obtain ⟨p1, p2, p3⟩ := padz_spec 64 (l ++ [128]) (mod_ex _)
  obtain ⟨q1, q2⟩ := padl_spec (wrap64 ((8 : Int) * (l.length : Int))) 8 (padz 64 (l ++ [128]))
  unfold shaPadV
  simp only [List.length_append, List.length_singleton] at p2
  refine ⟨by omega, by omega, q2 (p3 fun x hx => ?_)⟩
  rcases List.mem_append.1 hx with hx | hx
  · exact hb x hx
  · rw [List.mem_singleton.1 hx]; omega
theorem tmod_len (n : Nat) : Int.tmod (n : Int) 64 = ((n % 64 : Nat) : Int) := by rw [Int.tmod_eq_emod_of_nonneg (by omega)]; omega
theorem dec_nat (d : Nat) (h : d ≤ 100) : wrap64 ((d : Int) - 1) = (d : Int) - 1 := by unfold wrap64; omega
theorem mul8 (d : Nat) (h : d ≤ 100) : (0 : Int) ≤ wrap64 ((8 : Int) * (d : Int)) := by unfold wrap64; omega

section
variable (z : Bool) (l : List Int)
theorem impl_ShaPad.ev1 : ∀ (d : Nat) (acc : List Int), d ≤ 8 → acc.length + d ≤ 1073741840 → Ev (fun k => impl_ShaPad.l1 k z l acc ((d : Int) - 1)) (false, padl (wrap64 ((8 : Int) * (l.length : Int))) d acc)
  | 0, acc, h8, ha => by
    refine ev_step ?_
    simp only [impl_ShaPad.l1, impl_ShaPad.l1b]
    exact ev_neg (by omega) (ev_some rfl)
  | d + 1, acc, h8, ha => by
    refine ev_step ?_
    have ih := impl_ShaPad.ev1 d (acc ++ [(shrI .i64 (wrap64 ((8 : Int) * (l.length : Int))) (wrap64 ((8 : Int) * (d : Int)))) % 256]) (by omega) (by simp; omega)
    simp only [impl_ShaPad.l1, impl_ShaPad.l1b]
    have e : (((d + 1 : Nat) : Int) - 1) = (d : Int) := by omega
    rw [e, dec_nat d (by omega)]
    exact ev_pos (by omega) (ev_pos (mul8 d (by omega)) (ev_pos (by omega) ih))
theorem impl_ShaPad.ev0 : ∀ (d : Nat) (acc : List Int), (∃ j, j ≤ d ∧ (acc.length + j) % 64 = 56) → acc.length + d ≤ 1073741800 → Ev (fun k => impl_ShaPad.l0 k z l acc) (false, padl (wrap64 ((8 : Int) * (l.length : Int))) 8 (padz d acc))
  | 0, acc, ⟨j, h1, h2⟩, ha => by
    obtain rfl : j = 0 := by omega
    refine ev_step ?_
    simp only [impl_ShaPad.l0, impl_ShaPad.l0b, tmod_len]
    exact ev_neg (by simp; omega) (impl_ShaPad.ev1 z l 8 acc (by omega) (by omega))
  | d + 1, acc, hj, ha => by
    refine ev_step ?_
    simp only [impl_ShaPad.l0, impl_ShaPad.l0b, tmod_len]
    unfold padz
    split
    · rename_i h
      exact ev_neg (by simp; omega) (impl_ShaPad.ev1 z l 8 acc (by omega) (by omega))
    · rename_i h
      obtain ⟨j, h1, h2⟩ := hj
      have hj : j ≠ 0 := fun e => h (by rw [← h2, e, Nat.add_zero])
      exact ev_pos (by simp; omega) (ev_pos (by omega) (impl_ShaPad.ev0 d (acc ++ [0]) ⟨j - 1, by omega, by simp only [List.length_append, List.length_singleton]; rw [← h2]; congr 1; omega⟩ (by simp; omega)))
theorem impl_ShaPad.ev (h : l.length ≤ 1073741000) : Ev (fun k => impl_ShaPad.f k z l) (false, shaPadV l) := by
  refine ev_step ?_
  simp only [impl_ShaPad.f, impl_ShaPad.b]
  exact Ev.bind (impl_copyBytes.ev z l (by omega)) (ev_pos (by show l.length + 1 < _; omega) (impl_ShaPad.ev0 z l 64 (l ++ [128]) (mod_ex _) (by simp; omega)))
theorem spec_ShaPad.ev1 (n : Int) : ∀ (d : Nat) (acc : List Int), d ≤ 8 → acc.length + d ≤ 1073741840 → Ev (fun k => spec_ShaPad.l1 k acc n ((d : Int) - 1)) (false, padl n d acc)
  | 0, acc, h8, ha => by
    refine ev_step ?_
    simp only [spec_ShaPad.l1, spec_ShaPad.l1b]
    exact ev_neg (by omega) (ev_some rfl)
  | d + 1, acc, h8, ha => by
    refine ev_step ?_
    have ih := spec_ShaPad.ev1 n d (acc ++ [(shrI .i64 n (wrap64 ((8 : Int) * (d : Int)))) % 256]) (by omega) (by simp; omega)
    simp only [spec_ShaPad.l1, spec_ShaPad.l1b]
    have e : (((d + 1 : Nat) : Int) - 1) = (d : Int) := by omega
    rw [e, dec_nat d (by omega)]
    exact ev_pos (by omega) (ev_pos (mul8 d (by omega)) (ev_pos (by omega) ih))
theorem spec_ShaPad.ev0 : ∀ (d : Nat) (acc : List Int), (∃ j, j ≤ d ∧ (acc.length + j) % 64 = 56) → acc.length + d ≤ 1073741800 → Ev (fun k => spec_ShaPad.l0 k z l acc) (false, padl (wrap64 ((8 : Int) * (l.length : Int))) 8 (padz d acc))
  | 0, acc, ⟨j, h1, h2⟩, ha => by
    obtain rfl : j = 0 := by omega
    refine ev_step ?_
    simp only [spec_ShaPad.l0, spec_ShaPad.l0b, tmod_len]
    exact ev_neg (by simp; omega) (spec_ShaPad.ev1 _ 8 acc (by omega) (by omega))
  | d + 1, acc, hj, ha => by
    refine ev_step ?_
    simp only [spec_ShaPad.l0, spec_ShaPad.l0b, tmod_len]
    unfold padz
    split
    · rename_i h
      exact ev_neg (by simp; omega) (spec_ShaPad.ev1 _ 8 acc (by omega) (by omega))
    · rename_i h
      obtain ⟨j, h1, h2⟩ := hj
      have hj : j ≠ 0 := fun e => h (by rw [← h2, e, Nat.add_zero])
      exact ev_pos (by simp; omega) (ev_pos (by omega) (spec_ShaPad.ev0 d (acc ++ [0]) ⟨j - 1, by omega, by simp only [List.length_append, List.length_singleton]; rw [← h2]; congr 1; omega⟩ (by simp; omega)))
theorem spec_ShaPad.ev (h : l.length ≤ 1073741000) : Ev (fun k => spec_ShaPad.f k z l) (false, shaPadV l) := by
  refine ev_step ?_
  simp only [spec_ShaPad.f, spec_ShaPad.b]
  exact Ev.bind (spec_l01Copy.ev z l (by omega)) (ev_pos (by show l.length + 1 < _; omega) (spec_ShaPad.ev0 z l 64 (l ++ [128]) (mod_ex _) (by simp; omega)))
end


def shaH0 : List Int := [1779033703, 3144134277, 1013904242, 2773480762, 1359893119, 2600822924, 528734635, 1541459225]
theorem shaH0_W : Ws shaH0 ∧ shaH0.length = 8 := by
  refine ⟨fun x hx => ?_, rfl⟩
  simp only [shaH0, List.mem_cons, List.not_mem_nil, or_false] at hx
  rcases hx with rfl | rfl | rfl | rfl | rfl | rfl | rfl | rfl <;> exact ⟨by omega, by omega⟩
def shaL (p : List Int) : Nat → Nat → List Int → List Int
  | 0, _, h => h
  | d + 1, i, h => shaL p d (i + 1) (shaBlk h ((p.take (64 * i + 64)).drop (64 * i)))
theorem shaL_W (p : List Int) : ∀ (d i : Nat) (h : List Int), Ws h ∧ h.length = 8 → Ws (shaL p d i h) ∧ (shaL p d i h).length = 8
  | 0, i, h, hh => hh
  | d + 1, i, h, hh => shaL_W p d (i + 1) _ (shaBlk_W _ _)
def four (x : Int) : List Int := [(shrI .i64 x 24) % 256, (shrI .i64 x 16) % 256, (shrI .i64 x 8) % 256, x % 256]
def sha (l : List Int) : List Int := (shaL (shaPadV l) ((shaPadV l).length / 64) 0 shaH0).flatMap four
theorem flat4 (h : List Int) : (h.flatMap four).length = 4 * h.length ∧ bytesOk (h.flatMap four) := by
  induction h with
  | nil => exact ⟨rfl, fun x hx => by simp at hx⟩
  | cons a t ih =>
    refine ⟨by rw [List.flatMap_cons, List.length_append, ih.1]; simp [four]; omega, fun x hx => ?_⟩
    rw [List.flatMap_cons] at hx
    rcases List.mem_append.1 hx with hx | hx
    · simp only [four, List.mem_cons, List.not_mem_nil, or_false] at hx
      rcases hx with rfl | rfl | rfl | rfl <;> omega
    · exact ih.2 x hx
theorem sha_spec (l : List Int) : (sha l).length = 32 ∧ bytesOk (sha l) := by
  obtain ⟨h1, h2⟩ := shaL_W (shaPadV l) ((shaPadV l).length / 64) 0 shaH0 shaH0_W
  obtain ⟨h3, h4⟩ := flat4 (shaL (shaPadV l) ((shaPadV l).length / 64) 0 shaH0)
  exact ⟨by unfold sha; rw [h3, h2], h4⟩
theorem cut64 {p : List Int} {i : Nat} (h : 64 * i + 64 ≤ p.length) : ((p.take (64 * i + 64)).drop (64 * i)).length = 64 := by simp; omega
theorem cut_ok {p : List Int} (h : bytesOk p) (a b : Nat) : bytesOk ((p.take a).drop b) := fun x hx => h x (List.mem_of_mem_take (List.mem_of_mem_drop hx))
theorem step64 (i : Nat) (h : i ≤ 100000000) : wrap64 (((64 * i : Nat) : Int) + 64) = ((64 * i + 64 : Nat) : Int) := by unfold wrap64; omega

theorem impl_ShaInit.ev : Ev (fun k => impl_ShaInit.f k) (false, shaH0) := by
  refine ev_step ?_
  simp only [impl_ShaInit.f, impl_ShaInit.b]
  exact ev_some rfl
theorem spec_ShaInit.ev : Ev (fun k => spec_ShaInit.f k) (false, shaH0) := by
  refine ev_step ?_
  simp only [spec_ShaInit.f, spec_ShaInit.b]
  exact ev_some rfl
theorem succ_nat (i : Nat) (h : i ≤ 1000000000) : wrap64 ((i : Int) + 1) = ((i + 1 : Nat) : Int) := by unfold wrap64; omega
theorem impl_Sha.ev1 (z : Bool) (h : List Int) (hh : h.length = 8) : ∀ (d i : Nat) (acc : List Int), i + d = 8 → acc.length = 4 * i → Ev (fun k => impl_Sha.l1 k acc z h (h.length : Int) (i : Int)) (false, acc ++ (h.drop i).flatMap four)
  | 0, i, acc, hi, ha => by
    refine ev_step ?_
    simp only [impl_Sha.l1, impl_Sha.l1b]
    refine ev_neg (by omega) (ev_some ?_)
    rw [List.drop_of_length_le (by omega)]
    simp
  | d + 1, i, acc, hi, ha => by
    have hlt : i < h.length := by omega
    refine ev_step ?_
    have ih := impl_Sha.ev1 z h hh d (i + 1) (acc ++ four h[i]) (by omega) (by simp [four]; omega)
    simp only [impl_Sha.l1, impl_Sha.l1b, rdI_nat hlt, succ_nat i (by omega)]
    refine ev_pos (by omega) (ev_pos (by omega) (ev_pos (by omega) (ev_pos (by omega) (ev_to ih ?_))))
    rw [List.drop_eq_getElem_cons hlt, List.flatMap_cons, List.append_assoc]
theorem impl_Sha.ev0 (z : Bool) (p : List Int) (hb : bytesOk p) (m : Nat) (hp : p.length = 64 * m) (hm : m ≤ 100000000) : ∀ (d i : Nat) (y : Bool) (h : List Int), i + d = m → Ws h ∧ h.length = 8 → Ev (fun k => impl_Sha.l0 k y h z p ((64 * i : Nat) : Int)) (false, (shaL p d i h).flatMap four)
  | 0, i, y, h, hi, hh => by
    refine ev_step ?_
    simp only [impl_Sha.l0, impl_Sha.l0b]
    refine ev_neg (by omega) (ev_to (impl_Sha.ev1 y h hh.2 8 0 [] (by omega) rfl) ?_)
    simp [shaL]
  | d + 1, i, y, h, hi, hh => by
    refine ev_step ?_
    have ih := impl_Sha.ev0 z p hb m hp hm d (i + 1) false (shaBlk h ((p.take (64 * i + 64)).drop (64 * i))) (by omega) (shaBlk_W _ _)
    simp only [impl_Sha.l0, impl_Sha.l0b, step64 i (by omega), Int.toNat_natCast]
    exact ev_pos (by omega) (ev_pos (by omega) (ev_pos (by omega) (ev_pos (by omega) (ev_pos (by omega) (Ev.bind (impl_ShaBlock.ev y z h _ hh.2 hh.1 (cut64 (by omega)) (cut_ok hb _ _)) ih)))))
theorem impl_Sha.ev (z : Bool) (l : List Int) (h : l.length ≤ 1073741000) (hb : bytesOk l) : Ev (fun k => impl_Sha.f k z l) (false, sha l) := by
  refine ev_step ?_
  simp only [impl_Sha.f, impl_Sha.b]
  obtain ⟨p1, p2, p3⟩ := shaPadV_spec l hb
  exact Ev.bind impl_ShaInit.ev (Ev.bind (impl_ShaPad.ev z l h) (impl_Sha.ev0 false (shaPadV l) p3 ((shaPadV l).length / 64) (by omega) (by omega) ((shaPadV l).length / 64) 0 false shaH0 (by omega) shaH0_W))
theorem spec_Sha.ev1 (z : Bool) (h : List Int) (hh : h.length = 8) : ∀ (d i : Nat) (acc : List Int), i + d = 8 → acc.length = 4 * i → Ev (fun k => spec_Sha.l1 k acc z h (h.length : Int) (i : Int)) (false, acc ++ (h.drop i).flatMap four)
  | 0, i, acc, hi, ha => by
    refine ev_step ?_
    simp only [spec_Sha.l1, spec_Sha.l1b]
    refine ev_neg (by omega) (ev_some ?_)
    rw [List.drop_of_length_le (by omega)]
    simp
  | d + 1, i, acc, hi, ha => by
    have hlt : i < h.length := by omega
    refine ev_step ?_
    have ih := spec_Sha.ev1 z h hh d (i + 1) (acc ++ four h[i]) (by omega) (by simp [four]; omega)
    simp only [spec_Sha.l1, spec_Sha.l1b, rdI_nat hlt, succ_nat i (by omega)]
    refine ev_pos (by omega) (ev_pos (by omega) (ev_pos (by omega) (ev_pos (by omega) (ev_to ih ?_))))
    rw [List.drop_eq_getElem_cons hlt, List.flatMap_cons, List.append_assoc]
theorem spec_Sha.ev0 (z : Bool) (p : List Int) (hb : bytesOk p) (m : Nat) (hp : p.length = 64 * m) (hm : m ≤ 100000000) : ∀ (d i : Nat) (y : Bool) (h : List Int), i + d = m → Ws h ∧ h.length = 8 → Ev (fun k => spec_Sha.l0 k y h z p ((64 * i : Nat) : Int)) (false, (shaL p d i h).flatMap four)
  | 0, i, y, h, hi, hh => by
    refine ev_step ?_
    simp only [spec_Sha.l0, spec_Sha.l0b]
    refine ev_neg (by omega) (ev_to (spec_Sha.ev1 y h hh.2 8 0 [] (by omega) rfl) ?_)
    simp [shaL]
  | d + 1, i, y, h, hi, hh => by
    refine ev_step ?_
    have ih := spec_Sha.ev0 z p hb m hp hm d (i + 1) false (shaBlk h ((p.take (64 * i + 64)).drop (64 * i))) (by omega) (shaBlk_W _ _)
    simp only [spec_Sha.l0, spec_Sha.l0b, step64 i (by omega), Int.toNat_natCast]
    exact ev_pos (by omega) (ev_pos (by omega) (ev_pos (by omega) (ev_pos (by omega) (ev_pos (by omega) (Ev.bind (spec_ShaBlock.ev y z h _ hh.2 hh.1 (cut64 (by omega))) ih)))))
theorem spec_Sha.ev (z : Bool) (l : List Int) (h : l.length ≤ 1073741000) (hb : bytesOk l) : Ev (fun k => spec_Sha.f k z l) (false, sha l) := by
  refine ev_step ?_
  simp only [spec_Sha.f, spec_Sha.b]
  obtain ⟨p1, p2, p3⟩ := shaPadV_spec l hb
  exact Ev.bind spec_ShaInit.ev (Ev.bind (spec_ShaPad.ev z l h) (spec_Sha.ev0 false (shaPadV l) p3 ((shaPadV l).length / 64) (by omega) (by omega) ((shaPadV l).length / 64) 0 false shaH0 (by omega) shaH0_W))


def macKey (l : List Int) : List Int := let k := if l.length > 64 then sha l else l; k ++ List.replicate (64 - k.length) 0
def xorB (c x : Int) : Int := Go.bits .xor .u8 c x
theorem xorB_ok (c x : Int) : 0 ≤ xorB c x ∧ xorB c x < 256 := by
  unfold xorB
  simp only [Go.bits]
  show 0 ≤ IntKind.u8.wrap _ ∧ IntKind.u8.wrap _ < 256
  rw [IntKind.wrap_u8]
  omega
def mac (key b : List Int) : List Int := sha ((macKey key).map (fun c => xorB c 92) ++ sha ((macKey key).map (fun c => xorB c 54) ++ b))
theorem mac_spec (key b : List Int) : (mac key b).length = 32 ∧ bytesOk (mac key b) := sha_spec _
theorem macKey_len (l : List Int) : (macKey l).length = 64 ∧ (bytesOk l → bytesOk (macKey l)) := by
  have hs := sha_spec l
  unfold macKey
  by_cases h : l.length > 64
  · rw [if_pos h]
    refine ⟨by simp [hs.1], fun _ x hx => ?_⟩
    rcases List.mem_append.1 hx with hx | hx
    · exact hs.2 x hx
    · rw [List.eq_of_mem_replicate hx]; omega
  · rw [if_neg h]
    refine ⟨by simp; omega, fun hb x hx => ?_⟩
    rcases List.mem_append.1 hx with hx | hx
    · exact hb x hx
    · rw [List.eq_of_mem_replicate hx]; omega
theorem front (k : List Int) (h : k.length ≤ 64) : k.take (List.replicate 64 (0 : Int)).length ++ (List.replicate 64 (0 : Int)).drop k.length = k ++ List.replicate (64 - k.length) 0 := by
  rw [List.length_replicate, List.take_of_length_le h, List.drop_replicate]
theorem impl_MacKey.ev (z : Bool) (l : List Int) (h : l.length ≤ 1073741000) (hb : bytesOk l) : Ev (fun k => impl_MacKey.f k z l) (false, macKey l) := by
  have hs := sha_spec l
  refine ev_step ?_
  simp only [impl_MacKey.f, impl_MacKey.b]
  refine ev_ite (fun c => Ev.bind (impl_Sha.ev z l h hb) (ev_some ?_)) (fun c => ev_some ?_)
  · have c' : l.length > 64 := by omega
    rw [front (sha l) (by omega), macKey, if_pos c']
  · have c' : ¬ l.length > 64 := by omega
    rw [front l (by omega), macKey, if_neg c']
theorem spec_MacKey.ev0 : ∀ (d : Nat) (l : List Int), l.length + d = 64 → Ev (fun k => spec_MacKey.l0 k false l) (false, l ++ List.replicate d 0)
  | 0, l, h => by
    refine ev_step ?_
    simp only [spec_MacKey.l0, spec_MacKey.l0b]
    exact ev_neg (by omega) (ev_some (by simp))
  | d + 1, l, h => by
    refine ev_step ?_
    simp only [spec_MacKey.l0, spec_MacKey.l0b]
    refine ev_pos (by omega) (ev_pos (by omega) (ev_to (spec_MacKey.ev0 d (l ++ [0]) (by simp; omega)) ?_))
    rw [List.replicate_succ, List.append_assoc, List.singleton_append]
theorem spec_MacKey.ev (z : Bool) (l : List Int) (h : l.length ≤ 1073741000) (hb : bytesOk l) : Ev (fun k => spec_MacKey.f k z l) (false, macKey l) := by
  have hs := sha_spec l
  refine ev_step ?_
  simp only [spec_MacKey.f, spec_MacKey.b]
  refine Ev.bind (spec_l01Copy.ev z l (by omega)) (ev_ite (fun c => Ev.bind (spec_Sha.ev false l h hb) ?_) (fun c => ?_))
  · have c' : l.length > 64 := by have : (l.length : Int) > 64 := c; omega
    have := spec_MacKey.ev0 (64 - (sha l).length) (sha l) (by omega)
    rw [macKey, if_pos c']
    exact this
  · have c' : ¬ l.length > 64 := by have : ¬ (l.length : Int) > 64 := c; omega
    have := spec_MacKey.ev0 (64 - l.length) l (by omega)
    rw [macKey, if_neg c']
    exact this
theorem impl_masked.ev0 (z : Bool) (l : List Int) (h : l.length ≤ 1073741) (x : Int) : ∀ (d i : Nat) (acc : List Int), i + d = l.length → acc.length = i → Ev (fun k => impl_masked.l0 k x acc z l (l.length : Int) (i : Int)) (false, acc ++ (l.drop i).map fun c => xorB c x)
  | 0, i, acc, hi, ha => by
    refine ev_step ?_
    simp only [impl_masked.l0, impl_masked.l0b]
    refine ev_neg (by omega) (ev_some ?_)
    rw [List.drop_of_length_le (by omega)]
    simp
  | d + 1, i, acc, hi, ha => by
    have hlt : i < l.length := by omega
    refine ev_step ?_
    have ih := impl_masked.ev0 z l h x d (i + 1) (acc ++ [xorB l[i] x]) (by omega) (by simp; omega)
    simp only [impl_masked.l0, impl_masked.l0b, rdI_nat hlt, succ_nat i (by omega)]
    refine ev_pos (by omega) (ev_pos (by omega) (ev_pos (by omega) (ev_pos (by omega) (ev_to ih ?_))))
    rw [List.drop_eq_getElem_cons hlt, List.map_cons, List.append_assoc, List.singleton_append]
theorem impl_masked.ev (z : Bool) (l : List Int) (h : l.length ≤ 1073741) (x : Int) : Ev (fun k => impl_masked.f k z l x) (false, l.map fun c => xorB c x) := by
  refine ev_step ?_
  simp only [impl_masked.f, impl_masked.b]
  exact ev_to (impl_masked.ev0 z l h x l.length 0 [] (by omega) rfl) (by simp)
theorem xors_ok (l : List Int) (x : Int) : bytesOk (l.map fun c => xorB c x) := fun y hy => by
  obtain ⟨c, _, rfl⟩ := List.mem_map.1 hy
  exact xorB_ok c x
theorem app_ok {a b : List Int} (ha : bytesOk a) (hb : bytesOk b) : bytesOk (a ++ b) := fun x hx => by
  rcases List.mem_append.1 hx with hx | hx
  · exact ha x hx
  · exact hb x hx
theorem impl_Mac.ev (y z : Bool) (key b : List Int) (h : key.length ≤ 1073741000) (hk : bytesOk key) (hb : b.length ≤ 1048576) (hbb : bytesOk b) : Ev (fun k => impl_Mac.f k y key z b) (false, mac key b) := by
  obtain ⟨m1, m2⟩ := macKey_len key
  have s1 := sha_spec ((macKey key).map (fun c => xorB c 54) ++ b)
  refine ev_step ?_
  simp only [impl_Mac.f, impl_Mac.b]
  refine Ev.bind (impl_MacKey.ev y key h hk) (Ev.bind (impl_masked.ev _ _ (by show (macKey key).length ≤ _; omega) 92) (Ev.bind (impl_masked.ev _ _ (by show (macKey key).length ≤ _; omega) 54) (ev_pos (by simp [m1]; omega) (Ev.bind (impl_Sha.ev _ _ (by simp [m1]; omega) (app_ok (xors_ok _ _) hbb)) (ev_pos (by simp [m1, s1.1]) (Ev.bind (impl_Sha.ev _ _ (by simp [m1, s1.1]) (app_ok (xors_ok _ _) s1.2)) (ev_some rfl)))))))
theorem spec_Mac.ev0 (y z : Bool) (b : List Int) (hb : b.length ≤ 1048576) (hbb : bytesOk b) (K : List Int) (hK : K.length = 64) : ∀ (d i : Nat) (p q : List Int), i + d = 64 → p.length = i → q.length = i → bytesOk p → bytesOk q →
    Ev (fun k => spec_Mac.l0 k y b p q z K (K.length : Int) (i : Int)) (false, sha ((q ++ (K.drop i).map fun c => xorB c 92) ++ sha ((p ++ (K.drop i).map fun c => xorB c 54) ++ b)))
  | 0, i, p, q, hi, hp, hq, hpo, hqo => by
    have s1 := sha_spec (p ++ b)
    refine ev_step ?_
    simp only [spec_Mac.l0, spec_Mac.l0b]
    rw [List.drop_of_length_le (by omega), List.map_nil, List.map_nil, List.append_nil, List.append_nil]
    exact ev_neg (by omega) (ev_pos (by omega) (Ev.bind (spec_Sha.ev _ _ (by simp; omega) (app_ok hpo hbb)) (ev_pos (by simp [s1.1]; omega) (Ev.bind (spec_Sha.ev _ _ (by simp [s1.1]; omega) (app_ok hqo s1.2)) (ev_some rfl)))))
  | d + 1, i, p, q, hi, hp, hq, hpo, hqo => by
    have hlt : i < K.length := by omega
    have one : ∀ x, bytesOk [xorB K[i] x] := fun x w hw => by rw [List.mem_singleton.1 hw]; exact xorB_ok _ _
    refine ev_step ?_
    have ih := spec_Mac.ev0 y z b hb hbb K hK d (i + 1) (p ++ [xorB K[i] 54]) (q ++ [xorB K[i] 92]) (by omega) (by simp; omega) (by simp; omega) (app_ok hpo (one _)) (app_ok hqo (one _))
    simp only [spec_Mac.l0, spec_Mac.l0b, rdI_nat hlt, succ_nat i (by omega)]
    refine ev_pos (by omega) (ev_pos (by omega) (ev_pos (by omega) (ev_pos (by omega) (ev_pos (by omega) (ev_to ih ?_)))))
    rw [List.drop_eq_getElem_cons hlt, List.map_cons, List.map_cons]
    simp only [List.append_assoc, List.singleton_append, List.cons_append, List.nil_append]
theorem spec_Mac.ev (y z : Bool) (key b : List Int) (h : key.length ≤ 1073741000) (hk : bytesOk key) (hb : b.length ≤ 1048576) (hbb : bytesOk b) : Ev (fun k => spec_Mac.f k y key z b) (false, mac key b) := by
  obtain ⟨m1, m2⟩ := macKey_len key
  refine ev_step ?_
  simp only [spec_Mac.f, spec_Mac.b]
  exact Ev.bind (spec_MacKey.ev y key h hk) (ev_to (spec_Mac.ev0 z false b hb hbb (macKey key) m1 64 0 [] [] (by omega) rfl rfl (fun x hx => by simp at hx) (fun x hx => by simp at hx)) (by simp [mac]))
end Go.Proofs.YthocpcfjfgnkgaaG
namespace Go.Proofs.YthocpcfjfgnkgaaG
open Go Go.Proofs.YthocpcfjfgnkgaaRv Go.RowKit
set_option linter.unusedVariables false
set_option linter.unusedSimpArgs false


def Row.ok (r : Row) : Prop := r.f1.length ≤ 1048576 ∧ bytesOk r.f1
def Rows (l : List Row) : Prop := l.length ≤ 1048576 ∧ ∀ r ∈ l, r.ok
def Few (l : List Row) : Prop := l.length ≤ 1048576 ∧ ∀ r ∈ l, okB r.f1

end Go.Proofs.YthocpcfjfgnkgaaG
namespace Go.Proofs.YthocpcfjfgnkgaaG
open Go Go.Proofs.YthocpcfjfgnkgaaRv Go.RowKit
set_option linter.unusedVariables false
set_option linter.unusedSimpArgs false

def voteV (a b : Int) (h : List Int) : Bool × List Int := if isNum a = true ∧ isNum b = true ∧ h.length = 32 then (false, 86 :: (vint 8 a ++ (vint 8 b ++ h))) else (true, [])
theorem spec_l07Hash.ev (z : Bool) (l : List Int) : Ev (fun k => spec_l07Hash.f k z l) (decide (l.length = 32)) := by
  refine ev_step ?_
  simp only [spec_l07Hash.f, spec_l07Hash.b]
  refine ev_some ?_
  have : ((l.length : Int) = 32) ↔ l.length = 32 := by omega
  simp [this]
theorem impl_areHashes.ev1 (y z : Bool) (l : List Int) : Ev (fun k => impl_areHashes.f k y [.nums 5 .u8 z l]) (decide (l.length = 32)) := by
  refine ev_step ?_
  simp only [impl_areHashes.f, impl_areHashes.b]
  refine ev_step ?_
  simp only [impl_areHashes.l0, impl_areHashes.l0b]
  refine ev_pos (by simp) (ev_pos (by simp) (ev_pos (by simp) ?_))
  have e : (((([.nums 5 .u8 z l] : List T).getD (0 : Int).toNat .bad).cells.getD 0 .bad).toNums) = l := rfl
  rw [e]
  refine ev_ite (fun c => ev_some ?_) (fun c => ?_)
  · have : ¬ l.length = 32 := fun h => c (by omega)
    simp [this]
  · have c' : l.length = 32 := by
      have : (l.length : Int) = 32 := by simpa using c
      omega
    refine ev_step ?_
    simp only [impl_areHashes.l0, impl_areHashes.l0b]
    refine ev_neg (by have : wrap64 ((0 : Int) + 1) = 1 := (by unfold wrap64; omega); rw [this]; simp) (ev_some (by simp [c']))
theorem spec_VoteBytes.ev (a b : Int) (z : Bool) (h : List Int) (hl : h.length ≤ 1048576) : Ev (fun k => spec_VoteBytes.f k a b z h) (voteV a b h) := by
  refine ev_step ?_
  simp only [spec_VoteBytes.f, spec_VoteBytes.b]
  refine Ev.bind (spec_l01Num.ev a) (ev_ite (fun c => ev_some ?_) fun c => Ev.bind (spec_l01Num.ev b) (ev_ite (fun d => ev_some ?_) fun d => Ev.bind (spec_l07Hash.ev z h) (ev_ite (fun e => ev_some ?_) fun e => ?_)))
  · simp at c; simp [voteV, c]
  · simp at d; simp [voteV, d]
  · have e' : ¬ h.length = 32 := by simpa using e
    simp [voteV, e']
  · simp at c d e
    have h1 := vint_length 8 a
    have h2 := vint_length 8 b
    refine Ev.bind (spec_l11Num.ev _ _ a (by simp)) (Ev.bind (spec_l11Num.ev _ _ b (by simp [putV, c]; omega)) (ev_pos (by simp [putV, c, d]; omega) (ev_some ?_)))
    simp [putV, voteV, c, d, e]
theorem impl_VoteBytes.ev (a b : Int) (z : Bool) (h : List Int) (hl : h.length ≤ 1048576) : Ev (fun k => impl_VoteBytes.f k a b z h) (voteV a b h) := by
  have h1 := vint_length 8 a
  have h2 := vint_length 8 b
  refine ev_step ?_
  simp only [impl_VoteBytes.f, impl_VoteBytes.b]
  refine Ev.bind (impl_numbers.ev 86 false [a, b] (by simp)) (ev_ite (fun c => ev_some ?_) fun c => Ev.bind (impl_areHashes.ev1 _ _ _) (ev_ite (fun e => ev_some ?_) fun e => ?_))
  · have : ¬ (isNum a = true ∧ isNum b = true) := fun hh => by simp [numsV, hh.1, hh.2] at c
    by_cases ca : isNum a = true
    · have cb : ¬ isNum b = true := fun hb => this ⟨ca, hb⟩
      simp [voteV, cb]
    · simp [voteV, ca]
  · have e' : ¬ h.length = 32 := by simpa using e
    simp [voteV, e']
  · have hh : isNum a = true ∧ isNum b = true := by
      unfold numsV at c
      split at c
      · rename_i hn
        exact ⟨hn a (by simp), hn b (by simp)⟩
      · exact (c rfl).elim
    have e' : h.length = 32 := by simpa using e
    refine ev_pos (by simp [numsV, hh.1, hh.2]; omega) (ev_some ?_)
    simp [numsV, voteV, hh.1, hh.2, e']
theorem voteV_len (a b : Int) (h : List Int) : (voteV a b h).2.length ≤ 51 ∧ ((voteV a b h).1 = decide ((voteV a b h).2 = [])) := by
  have h1 := vint_length 8 a
  have h2 := vint_length 8 b
  unfold voteV
  split
  · rename_i c
    simp [c.2.2]; omega
  · simp
theorem voteV_nice (a b : Int) {h : List Int} (hh : bytesOk h) : bytesOk (voteV a b h).2 := by
  unfold voteV
  split
  · rename_i c
    intro x hx
    simp only [List.mem_cons, List.mem_append] at hx
    rcases hx with rfl | hx | hx | hx
    · omega
    · exact vint_nice c.1 x hx
    · exact vint_nice c.2.1 x hx
    · exact hh x hx
  · intro x hx; simp at hx
def noVote : Int × Int × Bool × List Int × Int × Bool × List Int × Bool := (0, 0, true, [], 0, true, [], false)
def signVote (l : List Row) (view height : Int) (blk : List Int) (who : Int) : Int × Int × Bool × List Int × Int × Bool × List Int × Bool :=
  if tabOk l = true ∧ (voteV view height blk).1 = false ∧ (0 ≤ who ∧ who ≤ (l.length : Int) - 1) then (view, height, false, blk, who, false, mac (l.getD who.toNat default).f1 (voteV view height blk).2, true) else noVote
theorem impl_SignVote.ev (z : Bool) (l : List Row) (h : Rows l) (view height : Int) (y : Bool) (blk : List Int) (hb : blk.length ≤ 1048576) (hbb : bytesOk blk) (who : Int) : Ev (fun k => impl_SignVote.f k z (l.map Row.t) view height y blk who) (signVote l view height blk who) := by
  have hl := h.1
  have lb := voteV_len view height blk
  refine ev_step ?_
  simp only [impl_SignVote.f, impl_SignVote.b, List.length_map]
  have e1 : wrap64 ((l.length : Int) - 1) = (l.length : Int) - 1 := w64 (by omega) (by omega)
  rw [e1]
  clear e1
  refine Ev.bind (impl_VoteBytes.ev view height y blk hb) (Ev.bind (impl_TableOk.ev z l h.1) (ev_ite (fun c => ev_some ?_) fun c1 => ev_ite (fun c => ev_some ?_) fun c2 => Ev.bind (impl_within.ev _ _ _) (ev_ite (fun c => ev_some ?_) fun c3 => ?_)))
  · unfold signVote; rw [if_neg fun hh => c hh.1]; rfl
  · unfold signVote; rw [if_neg fun hh => by rw [hh.2.1] at c; cases c]; rfl
  · unfold signVote; rw [if_neg fun hh => c (by simpa using hh.2.2)]; rfl
  · have c3' : 0 ≤ who ∧ who ≤ (l.length : Int) - 1 := by simpa using c3
    obtain ⟨n, rfl⟩ := Int.eq_ofNat_of_zero_le c3'.1
    have hn : n < l.length := by omega
    have hr := h.2 _ (List.getElem_mem hn)
    rw [Int.toNat_natCast, row_at hn, Row.c1, Row.c1z]
    refine Ev.bind (impl_copyBytes.ev y blk (by omega)) (ev_pos (by omega) (ev_pos (by omega) (Ev.bind (impl_Mac.ev _ _ _ _ (by have := hr.1; omega) hr.2 (by have := lb.1; omega) (voteV_nice view height hbb)) (ev_some ?_))))
    unfold signVote
    rw [if_pos ⟨by simpa using c1, by simpa using c2, c3'⟩]
    simp [hn]
theorem spec_SignVote.ev (z : Bool) (l : List Row) (h : Rows l) (view height : Int) (y : Bool) (blk : List Int) (hb : blk.length ≤ 1048576) (hbb : bytesOk blk) (who : Int) : Ev (fun k => spec_SignVote.f k z (l.map Row.t) view height y blk who) (signVote l view height blk who) := by
  have hl := h.1
  have lb := voteV_len view height blk
  refine ev_step ?_
  simp only [spec_SignVote.f, spec_SignVote.b, List.length_map]
  have e1 : wrap64 ((l.length : Int) - 1) = (l.length : Int) - 1 := w64 (by omega) (by omega)
  rw [e1]
  clear e1
  refine Ev.bind (spec_VoteBytes.ev view height y blk hb) (Ev.bind (spec_TableOk.ev z l h.1) (ev_ite (fun c => ev_some ?_) fun c1 => ev_ite (fun c => ev_some ?_) fun c2 => Ev.bind (spec_l01In.ev _ _ _) (ev_ite (fun c => ev_some ?_) fun c3 => ?_)))
  · unfold signVote; rw [if_neg fun hh => c hh.1]; rfl
  · unfold signVote
    rw [if_neg fun hh => ?_]
    · rfl
    · have h1 := hh.2.1
      rw [lb.2] at h1
      have c' : (voteV view height blk).2 = [] := List.eq_nil_of_length_eq_zero (by have : (((voteV view height blk).2.length : Nat) : Int) = 0 := c; omega)
      simp [c'] at h1
  · unfold signVote; rw [if_neg fun hh => c (by simpa using hh.2.2)]; rfl
  · have c3' : 0 ≤ who ∧ who ≤ (l.length : Int) - 1 := by simpa using c3
    obtain ⟨n, rfl⟩ := Int.eq_ofNat_of_zero_le c3'.1
    have hn : n < l.length := by omega
    have hr := h.2 _ (List.getElem_mem hn)
    rw [Int.toNat_natCast, row_at hn, Row.c1, Row.c1z]
    refine Ev.bind (spec_l01Copy.ev y blk (by omega)) (ev_pos (by omega) (ev_pos (by omega) (Ev.bind (spec_Mac.ev _ _ _ _ (by have := hr.1; omega) hr.2 (by have := lb.1; omega) (voteV_nice view height hbb)) (ev_some ?_))))
    unfold signVote
    have hne : (voteV view height blk).1 = false := by
      rw [lb.2]
      have : (voteV view height blk).2 ≠ [] := fun e => c2 (by show (((voteV view height blk).2.length : Nat) : Int) = 0; rw [e]; rfl)
      simp [this]
    rw [if_pos ⟨by simpa using c1, hne, c3'⟩]
    simp [hn]
def voteSame (a1 a2 : Int) (a3 : List Int) (a4 : Int) (a5 : List Int) (b1 b2 : Int) (b3 : List Int) (b4 : Int) (b5 : List Int) : Bool := decide (a1 = b1) && (decide (a2 = b2) && (sameB a3 b3 && (decide (a4 = b4) && sameB a5 b5)))
theorem impl_VoteSame.ev (a1 a2 : Int) (x : Bool) (a3 : List Int) (a4 : Int) (y : Bool) (a5 : List Int) (b1 b2 : Int) (u : Bool) (b3 : List Int) (b4 : Int) (v : Bool) (b5 : List Int) : Ev (fun k => impl_VoteSame.f k a1 a2 x a3 a4 y a5 b1 b2 u b3 b4 v b5) (voteSame a1 a2 a3 a4 a5 b1 b2 b3 b4 b5) := by
  refine ev_step ?_
  simp only [impl_VoteSame.f, impl_VoteSame.b]
  unfold voteSame
  refine ev_ite (fun c1 => ev_ite (fun c2 => ev_ite (fun c4 => Ev.bind (impl_SameBytes.ev _ _ _ _) (ev_ite (fun c3 => Ev.bind (impl_SameBytes.ev _ _ _ _) (ev_some ?_)) fun c3 => ev_some ?_)) fun c4 => ev_some ?_) fun c2 => ev_some ?_) fun c1 => ev_some ?_
  all_goals simp_all
def voteGood (l : List Row) (view height : Int) (blk : List Int) (who : Int) (tag : List Int) : Bool :=
  (signVote l view height blk who).2.2.2.2.2.2.2 && voteSame (signVote l view height blk who).1 (signVote l view height blk who).2.1 (signVote l view height blk who).2.2.2.1 (signVote l view height blk who).2.2.2.2.1 (signVote l view height blk who).2.2.2.2.2.2.1 view height blk who tag
theorem impl_VoteGood.ev (z : Bool) (l : List Row) (h : Rows l) (view height : Int) (y : Bool) (blk : List Int) (hb : blk.length ≤ 1048576) (hbb : bytesOk blk) (who : Int) (x : Bool) (tag : List Int) : Ev (fun k => impl_VoteGood.f k z (l.map Row.t) view height y blk who x tag) (voteGood l view height blk who tag) := by
  refine ev_step ?_
  simp only [impl_VoteGood.f, impl_VoteGood.b]
  unfold voteGood
  refine Ev.bind (impl_SignVote.ev z l h view height y blk hb hbb who) (ev_ite (fun c => Ev.bind (impl_VoteSame.ev _ _ _ _ _ _ _ _ _ _ _ _ _ _) (ev_some ?_)) fun c => ev_some ?_)
  · rw [c]; rfl
  · have : (signVote l view height blk who).2.2.2.2.2.2.2 = false := by simpa using c
    rw [this]; rfl
end Go.Proofs.YthocpcfjfgnkgaaG
namespace Go.Proofs.YthocpcfjfgnkgaaG
open Go Go.Proofs.YthocpcfjfgnkgaaRv Go.RowKit
set_option linter.unusedVariables false
set_option linter.unusedSimpArgs false

structure By where
  z : Bool
  l : List Int
instance : Inhabited By := ⟨⟨false, []⟩⟩
def By.t (b : By) : T := .nums 5 .u8 b.z b.l
theorem By.c0 (b : By) : (b.t.cells.getD 0 .bad).toNums = b.l := rfl
def FewB (l : List By) : Prop := l.length ≤ 1048576 ∧ ∀ b ∈ l, okB b.l
structure QcV where
  v : Int
  h : Int
  bz : Bool
  blk : List Int
  mz : Bool
  bits : List Int
  tz : Bool
  tags : List By
structure Head where
  v : Int
  h : Int
  p : Int
  az : Bool
  par : List Int
  rz : Bool
  root : List Int
  q : QcV
instance : Inhabited Head := ⟨⟨0, 0, 0, false, [], false, [], ⟨0, 0, false, [], false, [], false, []⟩⟩⟩
def Head.t (x : Head) : T := .agg [.int .i64 x.v, .int .i64 x.h, .int .i64 x.p, .nums 5 .u8 x.az x.par, .nums 5 .u8 x.rz x.root, .int .i64 x.q.v, .int .i64 x.q.h, .nums 5 .u8 x.q.bz x.q.blk, .nums 5 .u8 x.q.mz x.q.bits, .sl 22 x.q.tz (x.q.tags.map By.t)]
section
variable (x : Head)
theorem Head.c0 : (x.t.cells.getD 0 .bad).toInt = x.v := rfl
theorem Head.c1 : (x.t.cells.getD 1 .bad).toInt = x.h := rfl
theorem Head.c2 : (x.t.cells.getD 2 .bad).toInt = x.p := rfl
theorem Head.c3 : (x.t.cells.getD 3 .bad).toNums = x.par := rfl
theorem Head.c4 : (x.t.cells.getD 4 .bad).toNums = x.root := rfl
end
def QcV.few (q : QcV) : Prop := okB q.blk ∧ okB q.bits ∧ FewB q.tags
def Head.few (x : Head) : Prop := okB x.par ∧ okB x.root ∧ x.q.few
def FewH (l : List Head) : Prop := l.length ≤ 1048576 ∧ ∀ x ∈ l, x.few
end Go.Proofs.YthocpcfjfgnkgaaG
namespace Go.Proofs.YthocpcfjfgnkgaaG
open Go Go.Proofs.YthocpcfjfgnkgaaRv Go.RowKit
set_option linter.unusedVariables false
set_option linter.unusedSimpArgs false

structure Light where
  l0 : Int
  l1 : Int
  l2 : Int
  l3 : Int
  l4 : Int
  rz : Bool
  rows : List Row
  skip : Int
  bz : Bool
  buf : List Int
  cz : Bool
  chain : List Head
def Light.few (x : Light) : Prop := Few x.rows ∧ okB x.buf ∧ FewH x.chain
end Go.Proofs.YthocpcfjfgnkgaaG
namespace Go.Proofs.YthocpcfjfgnkgaaG
open Go Go.Proofs.YthocpcfjfgnkgaaRv Go.RowKit
set_option linter.unusedVariables false
set_option linter.unusedSimpArgs false


end Go.Proofs.YthocpcfjfgnkgaaG
namespace Go.Proofs.YthocpcfjfgnkgaaG
open Go Go.Proofs.YthocpcfjfgnkgaaRv Go.RowKit
set_option linter.unusedVariables false
set_option linter.unusedSimpArgs false

structure Sl (α : Type) where
  z : Bool
  l : List α
def goodI (n : Int) : Prop := (Lit.int .i64 n).wf = true
def By.good (b : By) : Prop := b.l.length ≤ 9223372036854775807 ∧ ∀ n ∈ b.l, (Lit.int .u8 n).wf = true
def GoodL {α : Type} (g : α → Prop) (l : List α) : Prop := l.length ≤ 9223372036854775807 ∧ ∀ x ∈ l, g x
def Row.good (r : Row) : Prop := goodI r.f0 ∧ By.good ⟨r.z, r.f1⟩
def Tab.good (x : Sl Row) : Prop := GoodL Row.good x.l
def QcV.good (q : QcV) : Prop := goodI q.v ∧ goodI q.h ∧ By.good ⟨q.bz, q.blk⟩ ∧ By.good ⟨q.mz, q.bits⟩ ∧ GoodL By.good q.tags
def Head.good (h : Head) : Prop := goodI h.v ∧ goodI h.h ∧ goodI h.p ∧ By.good ⟨h.az, h.par⟩ ∧ By.good ⟨h.rz, h.root⟩ ∧ h.q.good
structure Vt where
  v : Int
  h : Int
  bz : Bool
  blk : List Int
  who : Int
  tz : Bool
  tag : List Int
instance : Inhabited Vt := ⟨⟨0, 0, false, [], 0, false, []⟩⟩
def Vt.t (x : Vt) : T := .agg [.int .i64 x.v, .int .i64 x.h, .nums 5 .u8 x.bz x.blk, .int .i64 x.who, .nums 5 .u8 x.tz x.tag]
theorem vt_at {l : List Vt} {i : Nat} (h : i < l.length) : (l.map Vt.t).getD i .bad = (l[i]).t := by simp [List.getD_eq_getElem?_getD, h]
theorem Vt.c0 (x : Vt) : (x.t.cells.getD 0 .bad).toInt = x.v := rfl
theorem Vt.c1 (x : Vt) : (x.t.cells.getD 1 .bad).toInt = x.h := rfl
theorem Vt.c2z (x : Vt) : (x.t.cells.getD 2 .bad).isNil = x.bz := rfl
theorem Vt.c2 (x : Vt) : (x.t.cells.getD 2 .bad).toNums = x.blk := rfl
theorem Vt.c3 (x : Vt) : (x.t.cells.getD 3 .bad).toInt = x.who := rfl
theorem Vt.c4z (x : Vt) : (x.t.cells.getD 4 .bad).isNil = x.tz := rfl
theorem Vt.c4 (x : Vt) : (x.t.cells.getD 4 .bad).toNums = x.tag := rfl
def Vt.good (x : Vt) : Prop := goodI x.v ∧ goodI x.h ∧ By.good ⟨x.bz, x.blk⟩ ∧ goodI x.who ∧ By.good ⟨x.tz, x.tag⟩
structure En where
  who : Int
  high : Int
  tz : Bool
  tag : List Int
instance : Inhabited En := ⟨⟨0, 0, false, []⟩⟩
def En.t (x : En) : T := .agg [.int .i64 x.who, .int .i64 x.high, .nums 5 .u8 x.tz x.tag]
theorem En.c0 (x : En) : (x.t.cells.getD 0 .bad).toInt = x.who := rfl
theorem En.c1 (x : En) : (x.t.cells.getD 1 .bad).toInt = x.high := rfl
theorem En.c2 (x : En) : (x.t.cells.getD 2 .bad).toNums = x.tag := rfl
def En.good (x : En) : Prop := goodI x.who ∧ goodI x.high ∧ By.good ⟨x.tz, x.tag⟩
structure Lm where
  l0 : Int
  l1 : Int
  l2 : Int
  l3 : Int
  l4 : Int
def Lm.good (x : Lm) : Prop := goodI x.l0 ∧ goodI x.l1 ∧ goodI x.l2 ∧ goodI x.l3 ∧ goodI x.l4
structure TcV where
  v : Int
  ez : Bool
  ents : List En
def TcV.good (x : TcV) : Prop := goodI x.v ∧ GoodL En.good x.ents
structure Ps where
  skip : Int
  z : Bool
  buf : List Int
def Ps.good (x : Ps) : Prop := goodI x.skip ∧ By.good ⟨x.z, x.buf⟩
def Light.good (x : Light) : Prop := Lm.good ⟨x.l0, x.l1, x.l2, x.l3, x.l4⟩ ∧ GoodL Row.good x.rows ∧ Ps.good ⟨x.skip, x.bz, x.buf⟩ ∧ GoodL Head.good x.chain
structure Fo where
  l0 : Int
  l1 : Int
  l2 : Int
  l3 : Int
  l4 : Int
  hz : Bool
  heads : List Head
def Fo.good (x : Fo) : Prop := Lm.good ⟨x.l0, x.l1, x.l2, x.l3, x.l4⟩ ∧ GoodL Head.good x.heads
structure Pf where
  hz : Bool
  heads : List Head
  q : QcV
def Pf.good (x : Pf) : Prop := GoodL Head.good x.heads ∧ x.q.good
end Go.Proofs.YthocpcfjfgnkgaaG
namespace Go.Proofs.YthocpcfjfgnkgaaG
open Go Go.Proofs.YthocpcfjfgnkgaaRv Go.RowKit
set_option linter.unusedVariables false
set_option linter.unusedSimpArgs false

theorem tdiv_nat (n m : Nat) : Int.tdiv (n : Int) (m : Int) = ((n / m : Nat) : Int) := by
  rw [Int.tdiv_eq_ediv_of_nonneg (by omega)]
  exact (Int.natCast_ediv n m).symm
theorem tmod_nat (n m : Nat) : Int.tmod (n : Int) (m : Int) = ((n % m : Nat) : Int) := by
  rw [Int.tmod_eq_emod_of_nonneg (by omega)]
  exact (Int.natCast_emod n m).symm
theorem w64n {n : Nat} (h : n ≤ 9223372036854775807) : wrap64 (n : Int) = (n : Int) := w64 (by omega) (by omega)

def bitAt (b : List Int) (i : Nat) : Bool := rdI b ((i / 8 : Nat) : Int) / 2 ^ (i % 8) % 2 == 1
theorem bitAt_out {b : List Int} {i : Nat} (h : 8 * b.length ≤ i) : bitAt b i = false := by
  have : b.length ≤ i / 8 := by omega
  have e : rdI b ((i / 8 : Nat) : Int) = 0 := by
    unfold rdI
    rw [toNat_nat, List.getD_eq_getElem?_getD, List.getElem?_eq_none this]
    rfl
  unfold bitAt
  rw [e]
  simp
theorem rd_nice {l : List Int} (h : niceB l) (i : Int) : 0 ≤ rdI l i ∧ rdI l i < 256 := by
  unfold rdI
  rw [List.getD_eq_getElem?_getD]
  cases e : l[i.toNat]? with
  | none => simp
  | some x => exact h.2 x (List.mem_of_getElem? e)
theorem u8_and1 {x : Int} (h0 : 0 ≤ x) (h1 : x < 256) : Go.bits .and .u8 x 1 = x % 2 := bits_mask .u8 8 (by decide) wraps_u8 1 (by decide) x h0 h1
theorem div_pow_bd {x : Int} (h0 : 0 ≤ x) (h1 : x < 256) (m : Nat) : 0 ≤ x / 2 ^ m ∧ x / 2 ^ m < 256 := by
  have hp : (0 : Int) < 2 ^ m := Int.pow_pos (by decide)
  refine ⟨Int.ediv_nonneg h0 (Int.le_of_lt hp), ?_⟩
  have := Int.ediv_le_self (2 ^ m) h0
  omega

def bitsFrom (b : List Int) : Nat → Nat → List Nat
  | _, 0 => []
  | i, m + 1 => if bitAt b i = true then i :: bitsFrom b (i + 1) m else bitsFrom b (i + 1) m

def bitsList (b : List Int) : List Int := (bitsFrom b 0 (8 * b.length)).map fun (n : Nat) => (n : Int)
theorem bitsFrom_mem (b : List Int) : ∀ (m i : Nat) (x : Nat), x ∈ bitsFrom b i m ↔ (i ≤ x ∧ x < i + m) ∧ bitAt b x = true
  | 0, i, x => by simp [bitsFrom]; omega
  | m + 1, i, x => by
    have ih := bitsFrom_mem b m (i + 1) x
    unfold bitsFrom
    split
    · rename_i h
      rw [List.mem_cons, ih]
      constructor
      · rintro (rfl | ⟨h1, h2⟩)
        · exact ⟨by omega, h⟩
        · exact ⟨by omega, h2⟩
      · rintro ⟨h1, h2⟩
        by_cases e : x = i
        · exact Or.inl e
        · exact Or.inr ⟨by omega, h2⟩
    · rename_i h
      rw [ih]
      constructor
      · rintro ⟨h1, h2⟩
        exact ⟨by omega, h2⟩
      · rintro ⟨h1, h2⟩
        have : x ≠ i := by rintro rfl; exact h h2
        exact ⟨by omega, h2⟩
theorem bitsList_bd {b : List Int} {x : Int} (h : x ∈ bitsList b) : ∃ n : Nat, x = n ∧ n < 8 * b.length ∧ bitAt b n = true := by
  unfold bitsList at h
  obtain ⟨n, hn, rfl⟩ := List.mem_map.1 h
  have := (bitsFrom_mem b _ _ n).1 hn
  exact ⟨n, rfl, by omega, this.2⟩
def bitsSize (n : Int) : Int := if n < 1 then 0 else (n - 1) / 8 + 1

def bitsOk (b : List Int) (n : Int) : Bool := decide (1 ≤ n ∧ n ≤ 10) && (decide ((b.length : Int) = bitsSize n) && (bitsList b).all fun i => decide (i < n))
theorem bitsOk_iff {b : List Int} {n : Int} : bitsOk b n = true ↔ (1 ≤ n ∧ n ≤ 10) ∧ (b.length : Int) = bitsSize n ∧ ∀ i ∈ bitsList b, i < n := by
  simp [bitsOk, and_assoc]
theorem bits_u8_bd (op : BinOp) (x y : Int) : 0 ≤ Go.bits op .u8 x y ∧ Go.bits op .u8 x y < 256 := by
  unfold Go.bits
  rw [IntKind.wrap_u8]
  omega
theorem ofInt_nice {x : Int} (h0 : 0 ≤ x) (h1 : x < 256) : (BitVec.ofInt 8 x).toNat = x.toNat := by
  rw [BitVec.toNat_ofInt]
  have : x % ((2 ^ 8 : Nat) : Int) = x := Int.emod_eq_of_lt h0 (by omega)
  rw [this]
def bitOp : BinOp → Bool → Bool → Bool
  | .and, p, q => p && q
  | .or, p, q => p || q
  | .xor, p, q => p ^^ q
  | _, p, q => p && !q
theorem bits_test {op : BinOp} {x y : Int} (hx : 0 ≤ x ∧ x < 256) (hy : 0 ≤ y ∧ y < 256) {m : Nat} (hm : m < 8) : (Go.bits op .u8 x y).toNat.testBit m = bitOp op (x.toNat.testBit m) (y.toNat.testBit m) := by
  have e : ∀ v : BitVec 8, (IntKind.u8.wrap (v.toNat : Int)).toNat = v.toNat := by
    intro v
    have := v.isLt
    rw [IntKind.wrap_u8]
    omega
  have ex : x.toNat.testBit m = (BitVec.ofInt 8 x).getLsbD m := by rw [← ofInt_nice hx.1 hx.2]; rfl
  have ey : y.toNat.testBit m = (BitVec.ofInt 8 y).getLsbD m := by rw [← ofInt_nice hy.1 hy.2]; rfl
  rw [ex, ey]
  unfold Go.bits
  show ((IntKind.u8.wrap ((match op with | .and => BitVec.ofInt 8 x &&& BitVec.ofInt 8 y | .or => BitVec.ofInt 8 x ||| BitVec.ofInt 8 y | .xor => BitVec.ofInt 8 x ^^^ BitVec.ofInt 8 y | _ => BitVec.ofInt 8 x &&& ~~~(BitVec.ofInt 8 y)).toNat : Int)).toNat).testBit m = _
  rw [e, BitVec.testBit_toNat]
  cases op <;> simp [bitOp, hm]
theorem bitAt_test {b : List Int} (h : niceB b) (i : Nat) : bitAt b i = (rdI b ((i / 8 : Nat) : Int)).toNat.testBit (i % 8) := by
  have q := rd_nice h ((i / 8 : Nat) : Int)
  unfold bitAt
  rw [Nat.testBit_eq_decide_div_mod_eq]
  obtain ⟨n, hn⟩ := Int.eq_ofNat_of_zero_le q.1
  rw [hn]
  have : ((n : Int) / 2 ^ (i % 8)) % 2 = ((n / 2 ^ (i % 8) % 2 : Nat) : Int) := by
    rw [Int.natCast_emod, Int.natCast_ediv, Int.natCast_pow]
    rfl
  rw [this, toNat_nat]
  by_cases c : n / 2 ^ (i % 8) % 2 = 1
  · rw [c]; rfl
  · rw [decide_eq_false c]
    have : n / 2 ^ (i % 8) % 2 = 0 := by omega
    rw [this]; rfl
theorem shl1 {m : Nat} (h : m < 8) : shlI .u8 1 (m : Int) = 2 ^ m := by
  match m, h with
  | 0, _ => rfl
  | 1, _ => rfl
  | 2, _ => rfl
  | 3, _ => rfl
  | 4, _ => rfl
  | 5, _ => rfl
  | 6, _ => rfl
  | 7, _ => rfl
theorem pow_test {m j : Nat} (h : m < 8) : ((2 : Int) ^ m).toNat.testBit j = decide (j = m) := by
  have : ((2 : Int) ^ m).toNat = 2 ^ m := by
    have : (2 : Int) ^ m = ((2 ^ m : Nat) : Int) := by rw [Int.natCast_pow]; rfl
    rw [this, toNat_nat]
  rw [this, Nat.testBit_two_pow]
  by_cases c : m = j
  · simp [c]
  · rw [decide_eq_false c, decide_eq_false (fun h => c h.symm)]
theorem pow_bd {m : Nat} (h : m < 8) : (0 : Int) ≤ 2 ^ m ∧ (2 : Int) ^ m < 256 := by
  match m, h with
  | 0, _ => decide
  | 1, _ => decide
  | 2, _ => decide
  | 3, _ => decide
  | 4, _ => decide
  | 5, _ => decide
  | 6, _ => decide
  | 7, _ => decide

def bitSet (op : BinOp) (b : List Int) (i : Nat) : List Int := b.set (i / 8) (Go.bits op .u8 (rdI b ((i / 8 : Nat) : Int)) (2 ^ (i % 8)))
theorem bitSet_nice {op : BinOp} {b : List Int} (h : niceB b) (i : Nat) : niceB (bitSet op b i) := by
  unfold bitSet
  refine ⟨by rw [List.length_set]; exact h.1, fun x hx => ?_⟩
  rcases List.mem_or_eq_of_mem_set hx with hx | rfl
  · exact h.2 x hx
  · exact bits_u8_bd _ _ _
theorem bitSet_length (op : BinOp) (b : List Int) (i : Nat) : (bitSet op b i).length = b.length := by simp [bitSet]
theorem bitSet_bit {op : BinOp} {b : List Int} (h : niceB b) {i : Nat} (hi : i < 8 * b.length) (hop : ∀ p, bitOp op p false = p) (j : Nat) : bitAt (bitSet op b i) j = if j = i then bitOp op (bitAt b j) true else bitAt b j := by
  have hk : i / 8 < b.length := by omega
  rw [bitAt_test (bitSet_nice h i), bitAt_test h]
  by_cases c : j / 8 = i / 8
  · have e : rdI (bitSet op b i) ((j / 8 : Nat) : Int) = Go.bits op .u8 (rdI b ((i / 8 : Nat) : Int)) (2 ^ (i % 8)) := by
      rw [c, rd_nat (by rw [bitSet_length]; exact hk)]
      simp [bitSet]
    rw [e, bits_test (rd_nice h _) (pow_bd (by omega)) (by omega), pow_test (by omega), c]
    by_cases d : j = i
    · subst d; simp
    · rw [if_neg d, decide_eq_false (by omega), hop]
  · have e : rdI (bitSet op b i) ((j / 8 : Nat) : Int) = rdI b ((j / 8 : Nat) : Int) := by
      unfold rdI bitSet
      rw [List.getD_eq_getElem?_getD, List.getD_eq_getElem?_getD, toNat_nat, List.getElem?_set_ne (fun x => c x.symm)]
    rw [e, if_neg (by rintro rfl; exact c rfl)]


theorem and255 (x : Int) : 0 ≤ Go.bits .and .i64 x 255 ∧ Go.bits .and .i64 x 255 ≤ 255 := by
  have h : (BitVec.ofInt 64 x &&& BitVec.ofInt 64 255).toNat ≤ 255 := by
    rw [BitVec.toNat_and]
    exact Nat.le_trans Nat.and_le_right (by decide)
  have e : Go.bits .and .i64 x 255 = ((BitVec.ofInt 64 x &&& BitVec.ofInt 64 255).toNat : Int) := by
    show IntKind.i64.wrap ((BitVec.ofInt 64 x &&& BitVec.ofInt 64 255).toNat : Int) = _
    rw [IntKind.wrap_i64]
    omega
  rw [e]
  omega
theorem bitAt_zero (m j : Nat) : bitAt (List.replicate m 0) j = false := by
  have e : rdI (List.replicate m 0) ((j / 8 : Nat) : Int) = 0 := by
    unfold rdI
    rw [toNat_nat, List.getD_eq_getElem?_getD, List.getElem?_replicate]
    split <;> rfl
  unfold bitAt
  rw [e]
  simp
theorem bitsOk_of {b : List Int} {n : Nat} (h1 : 1 ≤ n) (h2 : n ≤ 10) (hl : (b.length : Int) = bitsSize (n : Int)) (h : ∀ j, bitAt b j = true → j < n) : bitsOk b (n : Int) = true := by
  refine bitsOk_iff.2 ⟨by omega, hl, fun i hi => ?_⟩
  obtain ⟨m, rfl, _, hm⟩ := bitsList_bd hi
  have := h m hm
  omega
def setAll (b : List Int) (own : List Nat) : List Int := own.foldl (fun b i => bitSet .or b i) b
theorem setAll_spec : ∀ (own : List Nat) (b : List Int), niceB b → (∀ i ∈ own, i < 8 * b.length) → niceB (setAll b own) ∧ (setAll b own).length = b.length ∧ ∀ j, bitAt (setAll b own) j = (bitAt b j || decide (j ∈ own))
  | [], b, hb, _ => ⟨hb, rfl, fun j => by simp [setAll]⟩
  | i :: t, b, hb, h => by
    have hi := h i (by simp)
    obtain ⟨h1, h2, h3⟩ := setAll_spec t (bitSet .or b i) (bitSet_nice hb i) (fun x hx => by rw [bitSet_length]; exact h x (by simp [hx]))
    refine ⟨h1, by rw [← bitSet_length .or b i]; exact h2, fun j => ?_⟩
    have e : setAll b (i :: t) = setAll (bitSet .or b i) t := rfl
    rw [e, h3, bitSet_bit hb hi (by intro p; simp [bitOp])]
    by_cases c : j = i
    · subst c; simp [bitOp]
    · simp [c]
def bitsOf (n : Nat) (own : List Nat) : List Int := setAll (List.replicate (bitsSize (n : Int)).toNat 0) own
theorem bitsSize_bd {n : Nat} (h1 : 1 ≤ n) (h2 : n ≤ 10) : 1 ≤ bitsSize (n : Int) ∧ bitsSize (n : Int) ≤ 2 ∧ (n : Int) ≤ 8 * bitsSize (n : Int) := by
  unfold bitsSize
  rw [if_neg (by omega)]
  omega
theorem zeros_nice (m : Nat) (h : m ≤ 1048576) : niceB (List.replicate m 0) := ⟨by rw [List.length_replicate]; exact h, fun x hx => by rw [List.eq_of_mem_replicate hx]; omega⟩
theorem bitsOf_spec {n : Nat} (h1 : 1 ≤ n) (h2 : n ≤ 10) {own : List Nat} (h : ∀ i ∈ own, i < n) : niceB (bitsOf n own) ∧ ((bitsOf n own).length : Int) = bitsSize (n : Int) ∧ bitsOk (bitsOf n own) (n : Int) = true ∧ ∀ j, bitAt (bitsOf n own) j = decide (j ∈ own) := by
  have z := bitsSize_bd h1 h2
  obtain ⟨q1, q2, q3⟩ := setAll_spec own (List.replicate (bitsSize (n : Int)).toNat 0) (zeros_nice _ (by omega)) (fun i hi => by have := h i hi; rw [List.length_replicate]; omega)
  rw [List.length_replicate] at q2
  have q4 : ∀ j, bitAt (bitsOf n own) j = decide (j ∈ own) := fun j => by
    show bitAt (setAll _ own) j = _
    rw [q3, bitAt_zero, Bool.false_or]
  refine ⟨q1, by unfold bitsOf; omega, bitsOk_of h1 h2 (by unfold bitsOf; omega) (fun j hj => ?_), q4⟩
  rw [q4] at hj
  exact h j (of_decide_eq_true hj)
end Go.Proofs.YthocpcfjfgnkgaaG
namespace Go.Proofs.YthocpcfjfgnkgaaG
open Go Go.Proofs.YthocpcfjfgnkgaaRv Go.RowKit
set_option linter.unusedVariables false
set_option linter.unusedSimpArgs false

theorem impl_BitsSize.ev (n : Int) (h : i64r n) : Ev (fun k => impl_BitsSize.f k n) (bitsSize n) := by
  have h' : -9223372036854775808 ≤ n ∧ n ≤ 9223372036854775807 := h
  refine ev_step ?_
  simp only [impl_BitsSize.f, impl_BitsSize.b]
  unfold bitsSize
  refine ev_ite (fun c => ev_some (by rw [if_pos c])) fun c => ev_some ?_
  rw [if_neg c, w64 (n := n - 1) (by omega) (by omega), Int.tdiv_eq_ediv_of_nonneg (by omega), w64 (n := (n - 1) / 8) (by omega) (by omega), w64 (by omega) (by omega)]
theorem impl_BitsHas.ev (z : Bool) (b : List Int) (h : niceB b) (i : Nat) (hi : i ≤ 4611686018427387904) : Ev (fun k => impl_BitsHas.f k z b (i : Int)) (bitAt b i) := by
  have hl := h.1
  have e8 : Int.tdiv (i : Int) 8 = ((i / 8 : Nat) : Int) := tdiv_nat i 8
  have m8 : Int.tmod (i : Int) 8 = ((i % 8 : Nat) : Int) := tmod_nat i 8
  refine ev_step ?_
  simp only [impl_BitsHas.f, impl_BitsHas.b]
  rw [w64 (n := 8 * (b.length : Int)) (by omega) (by omega), w64 (n := 8 * (b.length : Int) - 1) (by omega) (by omega), e8, m8, w64n (by omega)]
  refine Ev.bind (impl_within.ev _ _ _) (ev_ite (fun c => ?_) fun c => ?_)
  · have c' : (0 : Int) ≤ (i : Int) ∧ (i : Int) ≤ 8 * (b.length : Int) - 1 := by simpa using c
    refine ev_pos (by omega) (ev_pos (by omega) (ev_pos (by omega) (ev_some ?_)))
    have q := rd_nice h ((i / 8 : Nat) : Int)
    have e : shrI .u8 (rdI b ((i / 8 : Nat) : Int)) ((i % 8 : Nat) : Int) = rdI b ((i / 8 : Nat) : Int) / 2 ^ (i % 8) := by
      unfold shrI
      rw [toNat_nat, Nat.min_eq_left (by show i % 8 ≤ 8; omega)]
    have d := div_pow_bd q.1 q.2 (i % 8)
    rw [e, u8_and1 d.1 d.2]
    unfold bitAt
    rw [Bool.eq_iff_iff]; simp
  · have c' : ¬ ((0 : Int) ≤ (i : Int) ∧ (i : Int) ≤ 8 * (b.length : Int) - 1) := by simpa using c
    exact ev_some (bitAt_out (by omega)).symm
end Go.Proofs.YthocpcfjfgnkgaaG
namespace Go.Proofs.YthocpcfjfgnkgaaG
open Go Go.Proofs.YthocpcfjfgnkgaaRv Go.RowKit
set_option linter.unusedVariables false
set_option linter.unusedSimpArgs false

def vtGood (l : List Row) (x : Vt) : Bool := voteGood l x.v x.h x.blk x.who x.tag
theorem Rows.few {l : List Row} (h : Rows l) : l.length ≤ 1048576 := h.1
end Go.Proofs.YthocpcfjfgnkgaaG
namespace Go.Proofs.YthocpcfjfgnkgaaG
open Go Go.Proofs.YthocpcfjfgnkgaaRv Go.RowKit
set_option linter.unusedVariables false
set_option linter.unusedSimpArgs false

theorem bits_ext {a b : List Int} (ha : niceB a) (hb : niceB b) (hl : a.length = b.length) (h : ∀ j, bitAt a j = bitAt b j) : a = b := by
  refine List.ext_getElem hl fun i h1 h2 => ?_
  have p := ha.2 _ (List.getElem_mem h1)
  have q := hb.2 _ (List.getElem_mem h2)
  have e : ∀ m, m < 8 → (a[i]).toNat.testBit m = (b[i]).toNat.testBit m := fun m hm => by
    have := h (8 * i + m)
    rw [bitAt_test ha, bitAt_test hb, show (8 * i + m) / 8 = i by omega, show (8 * i + m) % 8 = m by omega, rd_nat h1, rd_nat h2] at this
    exact this
  have : (a[i]).toNat = (b[i]).toNat := by
    refine Nat.eq_of_testBit_eq fun m => ?_
    by_cases hm : m < 8
    · exact e m hm
    · have t : ∀ x : Nat, x < 256 → x.testBit m = false := fun x hx => by
        refine Nat.testBit_lt_two_pow (Nat.lt_of_lt_of_le hx ?_)
        exact Nat.le_trans (show 256 ≤ 2 ^ 8 by decide) (Nat.pow_le_pow_right (by decide) (by omega))
      rw [t _ (by omega), t _ (by omega)]
  omega
theorem impl_BitsNew.ev (n : Nat) (h1 : 1 ≤ n) (h2 : n ≤ 10) : Ev (fun k => impl_BitsNew.f k (n : Int)) (false, List.replicate (bitsSize (n : Int)).toNat 0) := by
  have z := bitsSize_bd h1 h2
  refine ev_step ?_
  simp only [impl_BitsNew.f, impl_BitsNew.b]
  exact Ev.bind (impl_within.ev _ _ _) (ev_neg (by simp; omega) (Ev.bind (impl_BitsSize.ev _ (by unfold i64r; omega)) (ev_pos trivial (ev_pos (by omega) (ev_pos (by omega) (ev_some rfl))))))
def castL (own : List Nat) : List Int := own.map fun (n : Nat) => (n : Int)
theorem castL_rd {own : List Nat} {i : Nat} (h : i < own.length) : rdI (castL own) (i : Int) = ((own[i] : Nat) : Int) := by
  rw [rd_nat (by simp [castL]; exact h)]
  simp [castL]
theorem castL_len (own : List Nat) : (castL own).length = own.length := by simp [castL]
theorem impl_BitsOf.ev0 (n : Nat) (h1 : 1 ≤ n) (h2 : n ≤ 10) (y : Bool) (own : List Nat) (ho : ∀ i ∈ own, i < n) (hl : own.length ≤ 4611686018427387904) : ∀ (d i : Nat) (b : List Int), i + d = own.length → (b.length : Int) = bitsSize (n : Int) → Ev (fun k => impl_BitsOf.l0 k (n : Int) false b y (castL own) (own.length : Int) (i : Int)) (false, setAll b (own.drop i), true) := by
  intro d
  induction d with
  | zero =>
    intro i b hi hb
    refine ev_step ?_
    simp only [impl_BitsOf.l0, impl_BitsOf.l0b]
    refine ev_neg (by omega) (ev_some ?_)
    rw [List.drop_of_length_le (by omega)]
    rfl
  | succ d ih =>
    intro i b hi hb
    have z := bitsSize_bd h1 h2
    have hlt : i < own.length := by omega
    have hx := ho _ (List.getElem_mem hlt)
    have e8 : Int.tdiv ((own[i] : Nat) : Int) 8 = ((own[i] / 8 : Nat) : Int) := tdiv_nat _ 8
    have m8 : Int.tmod ((own[i] : Nat) : Int) 8 = ((own[i] % 8 : Nat) : Int) := tmod_nat _ 8
    have e := ih (i + 1) (bitSet .or b own[i]) (by omega) (by rw [bitSet_length]; exact hb)
    refine ev_step ?_
    simp only [impl_BitsOf.l0, impl_BitsOf.l0b]
    rw [castL_rd hlt, castL_len, e8, m8, w64n (by omega), Int.toNat_natCast, shl1 (by omega), w64s (n := i) (by omega), w64 (by omega) (by omega)]
    refine ev_pos (by omega) (ev_pos (by omega) (ev_pos (by omega) (Ev.bind (impl_within.ev _ _ _) (ev_neg (by simp; omega) ?_))))
    refine ev_pos (by omega) (ev_pos (by omega) (ev_pos (by omega) (ev_pos (by omega) (ev_pos (by omega) ?_))))
    rw [List.drop_eq_getElem_cons hlt]
    exact e
theorem impl_BitsOf.ev (n : Nat) (h1 : 1 ≤ n) (h2 : n ≤ 10) (y : Bool) (own : List Nat) (ho : ∀ i ∈ own, i < n) (hl : own.length ≤ 4611686018427387904) : Ev (fun k => impl_BitsOf.f k y (castL own) (n : Int)) (false, bitsOf n own, true) := by
  have z := bitsSize_bd h1 h2
  have e := impl_BitsOf.ev0 n h1 h2 y own ho hl own.length 0 (List.replicate (bitsSize (n : Int)).toNat 0) (by omega) (by rw [List.length_replicate]; omega)
  rw [List.drop_zero] at e
  refine ev_step ?_
  simp only [impl_BitsOf.f, impl_BitsOf.b, castL_len]
  exact Ev.bind (impl_within.ev _ _ _) (ev_neg (by simp; omega) (Ev.bind (impl_BitsNew.ev n h1 h2) e))
end Go.Proofs.YthocpcfjfgnkgaaG
namespace Go.Proofs.YthocpcfjfgnkgaaG
open Go Go.Proofs.YthocpcfjfgnkgaaRv Go.RowKit
set_option linter.unusedVariables false
set_option linter.unusedSimpArgs false

end Go.Proofs.YthocpcfjfgnkgaaG
namespace Go.Proofs.YthocpcfjfgnkgaaG
open Go Go.Proofs.YthocpcfjfgnkgaaRv Go.RowKit
set_option linter.unusedVariables false
set_option linter.unusedSimpArgs false

structure QcK (q : QcV) : Prop where
  v : isNum q.v = true
  h : isNum q.h = true
  blk : q.blk.length = 32
  bits : q.bits.length ≤ 2
  cnt : q.tags.length ≤ 16
  tags : ∀ b ∈ q.tags, b.l.length = 32
structure HeadK (x : Head) : Prop where
  v : isNum x.v = true
  h : isNum x.h = true
  p : isNum x.p = true
  par : x.par.length = 32
  root : x.root.length = 32
  q : QcK x.q
end Go.Proofs.YthocpcfjfgnkgaaG
namespace Go.Proofs.YthocpcfjfgnkgaaG
open Go Go.Proofs.YthocpcfjfgnkgaaRv Go.RowKit
set_option linter.unusedVariables false
set_option linter.unusedSimpArgs false


def cnt {α : Type} (w : α → Nat) (l : List α) : Nat := (l.map w).sum
def byW (b : By) : Nat := b.l.length
def QcV.w (q : QcV) : Nat := q.blk.length + q.bits.length + cnt byW q.tags

end Go.Proofs.YthocpcfjfgnkgaaG
namespace Go.Proofs.YthocpcfjfgnkgaaG
open Go Go.Proofs.YthocpcfjfgnkgaaRv Go.RowKit
set_option linter.unusedVariables false
set_option linter.unusedSimpArgs false

def Head.w (x : Head) : Nat := x.par.length + x.root.length + x.q.w
end Go.Proofs.YthocpcfjfgnkgaaG
namespace Go.Proofs.YthocpcfjfgnkgaaG
open Go Go.Proofs.YthocpcfjfgnkgaaRv Go.RowKit
set_option linter.unusedVariables false
set_option linter.unusedSimpArgs false

end Go.Proofs.YthocpcfjfgnkgaaG
namespace Go.Proofs.YthocpcfjfgnkgaaG
open Go Go.Proofs.YthocpcfjfgnkgaaRv Go.RowKit
set_option linter.unusedVariables false
set_option linter.unusedSimpArgs false

def NiceV (l : List Vt) : Prop := l.length ≤ 1048576 ∧ ∀ x ∈ l, niceB x.blk
theorem vtGood_whoP {l : List Row} {x : Vt} (h : vtGood l x = true) : 0 ≤ x.who ∧ x.who ≤ (l.length : Int) - 1 := by
  unfold vtGood voteGood at h
  simp only [Bool.and_eq_true] at h
  have h1 := h.1
  unfold signVote at h1
  split at h1
  · rename_i hc; exact hc.2.2
  · simp [noVote] at h1
def hasP (l : List Row) (p : Vt → Bool) (vs : List Vt) (i : Nat) : Bool := vs.any fun x => decide (x.who = (i : Int)) && (p x && vtGood l x)
def ownP (l : List Row) (p : Nat → Bool) : List Nat := (List.range l.length).filter p
theorem ownP_lt {l : List Row} {p : Nat → Bool} : ∀ i ∈ ownP l p, i < l.length := fun i hi => by
  have := (List.mem_filter.1 hi).1
  simpa using this
theorem bits_same {n : Nat} (h1 : 1 ≤ n) (h2 : n ≤ 10) {x y : List Nat} (hx : ∀ i ∈ x, i < n) (hy : ∀ i ∈ y, i < n) (h : ∀ j, j ∈ x ↔ j ∈ y) : bitsOf n x = bitsOf n y := by
  obtain ⟨a1, a2, _, a4⟩ := bitsOf_spec h1 h2 hx
  obtain ⟨b1, b2, _, b4⟩ := bitsOf_spec h1 h2 hy
  refine bits_ext a1 b1 (by omega) fun j => ?_
  rw [a4, b4, Bool.eq_iff_iff]
  simp [h j]
end Go.Proofs.YthocpcfjfgnkgaaG
namespace Go.Proofs.YthocpcfjfgnkgaaG
open Go Go.Proofs.YthocpcfjfgnkgaaRv Go.RowKit
set_option linter.unusedVariables false
set_option linter.unusedSectionVars false
set_option linter.unusedSimpArgs false

section
variable (z : Bool) (l : List Int) (h : l.length ≤ 1048576)
include h
theorem spec_l01New.ex0 : ∀ (d n : Nat) (s : Int), n + d = l.length → ∃ s', Ev (fun k => spec_l01New.l0 k z l s (n : Int)) (z, l, 0, s')
  | 0, n, s, hn => by
    refine ⟨s, ev_step ?_⟩
    simp only [spec_l01New.l0, spec_l01New.l0b]
    exact ev_neg (by omega) (ev_some rfl)
  | d + 1, n, s, hn => by
    by_cases c : n < 4000
    · obtain ⟨s', e⟩ := spec_l01New.ex0 d (n + 1) (Go.bits .and .i64 (wrap64 ((wrap64 ((wrap64 (s * 37)) + (wrap64 (rdI l (n : Int))))) + 7)) 1073741823) (by omega)
      refine ⟨s', ev_step ?_⟩
      simp only [spec_l01New.l0, spec_l01New.l0b]
      refine ev_pos (by omega) (ev_pos (by omega) (ev_pos (by omega) (ev_pos (by omega) ?_)))
      rw [w64s (by omega)]
      exact e
    · refine ⟨s, ev_step ?_⟩
      simp only [spec_l01New.l0, spec_l01New.l0b]
      exact ev_pos (by omega) (ev_neg (by omega) (ev_some rfl))
theorem spec_l01New.ex : ∃ s, Ev (fun k => spec_l01New.f k z l) (z, l, 0, s) := by
  obtain ⟨s, e⟩ := spec_l01New.ex0 z l h l.length 0 (wrap64 ((1611 : Int) + (l.length : Int))) (by omega)
  refine ⟨s, ev_step ?_⟩
  simp only [spec_l01New.f, spec_l01New.b]
  exact e
theorem spec_l01Byte.ex (p s : Int) (hp : 0 ≤ p) : ∃ b p' s', Ev (fun k => spec_l01Byte.f k z l p s) (b, z, l, p', s') ∧ 0 ≤ b ∧ b ≤ 255 ∧ 0 ≤ p' := by
  by_cases c : p < (l.length : Int)
  · refine ⟨Go.bits .and .i64 (wrap64 (Go.bits .and .i64 (Go.bits .xor .i64 (shrI .i64 (wrap64 ((wrap64 (s * 6364136223846793005)) + 1442695040888963407)) 33) (shrI .i64 (wrap64 ((wrap64 (s * 6364136223846793005)) + 1442695040888963407)) 45)) 255 + wrap64 (rdI l p))) 255, wrap64 (p + 1), wrap64 ((wrap64 (s * 6364136223846793005)) + 1442695040888963407), ev_step ?_, (and255 _).1, (and255 _).2, by rw [w64 (by omega) (by omega)]; omega⟩
    simp only [spec_l01Byte.f, spec_l01Byte.b]
    exact ev_pos c (ev_pos hp (ev_pos c (ev_some rfl)))
  · refine ⟨Go.bits .and .i64 (Go.bits .xor .i64 (shrI .i64 (wrap64 ((wrap64 (s * 6364136223846793005)) + 1442695040888963407)) 33) (shrI .i64 (wrap64 ((wrap64 (s * 6364136223846793005)) + 1442695040888963407)) 45)) 255, p, wrap64 ((wrap64 (s * 6364136223846793005)) + 1442695040888963407), ev_step ?_, (and255 _).1, (and255 _).2, hp⟩
    simp only [spec_l01Byte.f, spec_l01Byte.b]
    exact ev_neg c (ev_some rfl)
theorem spec_l01Below.ex (p s n : Int) (hp : 0 ≤ p) : ∃ b p' s', Ev (fun k => spec_l01Below.f k z l p s n) (b, z, l, p', s') ∧ 0 ≤ p' ∧ (0 < n → 0 ≤ b ∧ b < n) ∧ (n ≤ 0 → b = 0) := by
  by_cases c : n ≤ 0
  · refine ⟨0, p, s, ev_step ?_, hp, by omega, fun _ => rfl⟩
    simp only [spec_l01Below.f, spec_l01Below.b]
    exact ev_pos c (ev_some rfl)
  · by_cases d : n ≤ 256
    · obtain ⟨b, p1, s1, e, b0, b1, hp1⟩ := spec_l01Byte.ex z l h p s hp
      refine ⟨Int.tmod b n, p1, s1, ev_step ?_, hp1, fun hn => ⟨Int.tmod_nonneg _ b0, Int.tmod_lt_of_pos _ hn⟩, by omega⟩
      simp only [spec_l01Below.f, spec_l01Below.b]
      exact ev_neg c (ev_pos d (Ev.bind e (by simp only [Bool.not_eq_true', decide_eq_false_iff_not]; rw [show decide (n = 0) = false from decide_eq_false (by omega)]; exact ev_some rfl)))
    · obtain ⟨b1, p1, s1, e1, b10, b11, hp1⟩ := spec_l01Byte.ex z l h p s hp
      obtain ⟨b2, p2, s2, e2, b20, b21, hp2⟩ := spec_l01Byte.ex z l h p1 s1 hp1
      obtain ⟨b3, p3, s3, e3, b30, b31, hp3⟩ := spec_l01Byte.ex z l h p2 s2 hp2
      obtain ⟨b4, p4, s4, e4, b40, b41, hp4⟩ := spec_l01Byte.ex z l h p3 s3 hp3
      refine ⟨Int.tmod (b1 * 16777216 + b2 * 65536 + b3 * 256 + b4) n, p4, s4, ev_step ?_, hp4, fun hn => ⟨Int.tmod_nonneg _ (by omega), Int.tmod_lt_of_pos _ hn⟩, by omega⟩
      simp only [spec_l01Below.f, spec_l01Below.b]
      refine ev_neg c (ev_neg d (Ev.bind e1 (Ev.bind e2 (Ev.bind e3 (Ev.bind e4 ?_)))))
      simp only
      rw [show decide (n = 0) = false from decide_eq_false (by omega), w64 (n := b1 * 16777216) (by omega) (by omega), w64 (n := b2 * 65536) (by omega) (by omega), w64 (n := b3 * 256) (by omega) (by omega), w64 (n := b1 * 16777216 + b2 * 65536) (by omega) (by omega), w64 (n := b1 * 16777216 + b2 * 65536 + b3 * 256) (by omega) (by omega), w64 (by omega) (by omega)]
      exact ev_some rfl
theorem spec_l01Pick.ex (p s : Int) (y : Bool) (xs : List Int) (hp : 0 ≤ p) (hx : 0 < xs.length) : ∃ b p' s', Ev (fun k => spec_l01Pick.f k z l p s y xs) (b, z, l, p', s') ∧ 0 ≤ p' ∧ b ∈ xs := by
  obtain ⟨b, p1, s1, e, hp1, hb, _⟩ := spec_l01Below.ex z l h p s (xs.length : Int) hp
  obtain ⟨b0, b1⟩ := hb (by omega)
  refine ⟨rdI xs b, p1, s1, ev_step ?_, hp1, ?_⟩
  · simp only [spec_l01Pick.f, spec_l01Pick.b]
    exact Ev.bind e (ev_pos b0 (ev_pos b1 (ev_some rfl)))
  · obtain ⟨m, rfl⟩ := Int.eq_ofNat_of_zero_le b0
    rw [rdI_nat (by omega)]
    exact List.getElem_mem _
theorem spec_l10Draw.ex (p s : Int) (hp : 0 ≤ p) : ∃ n tx txs fr hd p' s', Ev (fun k => spec_l10Draw.f k z l p s) (n, tx, txs, fr, hd, z, l, p', s') ∧ 0 ≤ p' ∧ (1 ≤ n ∧ n ≤ 10) ∧ (0 ≤ tx ∧ tx ≤ 40) ∧ (0 ≤ txs ∧ txs ≤ 8) ∧ (60 ≤ fr ∧ fr ≤ 4000) ∧ (3 ≤ hd ∧ hd ≤ 5) := by
  obtain ⟨n, p1, s1, e1, hp1, h1⟩ := spec_l01Pick.ex z l h p s false ([1, 3, 4, 4, 7, 9, 10] : List Int) hp (by decide)
  obtain ⟨tx, p2, s2, e2, hp2, h2⟩ := spec_l01Pick.ex z l h p1 s1 false ([0, 4, 8, 40] : List Int) hp1 (by decide)
  obtain ⟨txs, p3, s3, e3, hp3, h3⟩ := spec_l01Pick.ex z l h p2 s2 false ([0, 3, 8] : List Int) hp2 (by decide)
  obtain ⟨fr, p4, s4, e4, hp4, h4⟩ := spec_l01Pick.ex z l h p3 s3 false ([4000, 4000, 300, 60] : List Int) hp3 (by decide)
  obtain ⟨hd, p5, s5, e5, hp5, h5, _⟩ := spec_l01Below.ex z l h p4 s4 3 hp4
  have h5 := h5 (by decide)
  simp only [List.mem_cons, List.not_mem_nil, or_false] at h1 h2 h3 h4
  refine ⟨n, tx, txs, fr, (wrap64 ((3 : Int) + hd)), p5, s5, ev_step ?_, hp5, by omega, by omega, by omega, by omega, by rw [w64 (by omega) (by omega)]; omega⟩
  simp only [spec_l10Draw.f, spec_l10Draw.b]
  exact Ev.bind e1 (Ev.bind e2 (Ev.bind e3 (Ev.bind e4 (Ev.bind e5 (ev_some rfl)))))
end
def rowDrawn (r : Row) : Prop := (1 ≤ r.f0 ∧ r.f0 ≤ 1099511627776) ∧ r.f1.length = 3 ∧ bytesOk r.f1
theorem spec_l21Draw.ex0 (z : Bool) (l : List Int) (h : l.length ≤ 1048576) (n : Nat) (hn : n ≤ 10) : ∀ (d i : Nat) (p s : Int) (y : Bool) (rows : List Row), i + d = n → rows.length = i → (∀ r ∈ rows, rowDrawn r) → 0 ≤ p → ∃ (y' : Bool) (rows' : List Row) (p' s' : Int), Ev (fun k => spec_l21Draw.l0 k (n : Int) (i : Int) z l p s y (rows.map Row.t)) (y', rows'.map Row.t, z, l, p', s') ∧ rows'.length = n ∧ (∀ r ∈ rows', rowDrawn r) ∧ 0 ≤ p'
  | 0, i, p, s, y, rows, hi, hr, ha, hp => by
    refine ⟨y, rows, p, s, ev_step ?_, by omega, ha, hp⟩
    simp only [spec_l21Draw.l0, spec_l21Draw.l0b]
    exact ev_neg (by omega) (ev_some rfl)
  | d + 1, i, p, s, y, rows, hi, hr, ha, hp => by
    obtain ⟨b, p1, s1, e1, hp1, h1, _⟩ := spec_l01Below.ex z l h p s 9 hp
    have h1 := h1 (by decide)
    obtain ⟨wt, p2, s2, e2, hp2, h2⟩ := spec_l01Pick.ex z l h p1 s1 false ([1, 1, 1, 2, 5, 1099511627776, wrap64 (1 + b)] : List Int) hp1 (by simp)
    obtain ⟨c, p3, s3, e3, hp3, h3, _⟩ := spec_l01Below.ex z l h p2 s2 9 hp2
    have h3 := h3 (by decide)
    have hw : 1 ≤ wt ∧ wt ≤ 1099511627776 := by
      rw [w64 (by omega) (by omega)] at h2
      simp only [List.mem_cons, List.not_mem_nil, or_false] at h2
      omega
    obtain ⟨y', rows', p', s', e, q1, q2, q3⟩ := spec_l21Draw.ex0 z l h n hn d (i + 1) p3 s3 false (rows ++ [⟨wt, false, [((i : Int)) % 256, c % 256, 1]⟩]) (by omega) (by simp; omega) (fun r hr' => by
      rcases List.mem_append.1 hr' with hr' | hr'
      · exact ha r hr'
      · rw [List.mem_singleton.1 hr']
        refine ⟨hw, rfl, fun x hx => ?_⟩
        simp only [List.mem_cons, List.not_mem_nil, or_false] at hx
        omega) hp3
    refine ⟨y', rows', p', s', ev_step ?_, q1, q2, q3⟩
    simp only [spec_l21Draw.l0, spec_l21Draw.l0b, List.length_map]
    refine ev_pos (by omega) (Ev.bind e1 (Ev.bind e2 (Ev.bind e3 (ev_pos (by omega) ?_))))
    rw [w64s (by omega)]
    rw [List.map_append] at e
    exact e
theorem spec_l21Draw.ex (z : Bool) (l : List Int) (h : l.length ≤ 1048576) (p s : Int) (hp : 0 ≤ p) (n : Nat) (hn : n ≤ 10) : ∃ (y : Bool) (rows : List Row) (p' s' : Int), Ev (fun k => spec_l21Draw.f k z l p s (n : Int)) (y, rows.map Row.t, z, l, p', s') ∧ rows.length = n ∧ (∀ r ∈ rows, rowDrawn r) ∧ 0 ≤ p' := by
  obtain ⟨y, rows, p', s', e, r⟩ := spec_l21Draw.ex0 z l h n hn n 0 p s true [] (by omega) rfl (by simp) hp
  refine ⟨y, rows, p', s', ev_step ?_, r⟩
  simp only [spec_l21Draw.f, spec_l21Draw.b]
  exact e
theorem drawn_ok {rows : List Row} (h : ∀ r ∈ rows, rowDrawn r) (h1 : 1 ≤ rows.length) (h2 : rows.length ≤ 10) : tabOk rows = true := tabOk_iff.2 ⟨fun r hr => ⟨(h r hr).1, by have := (h r hr).2.1; omega⟩, h1, h2⟩
theorem drawn_rows {rows : List Row} (h : ∀ r ∈ rows, rowDrawn r) (h2 : rows.length ≤ 10) : Rows rows := ⟨by omega, fun r hr => ⟨by have := (h r hr).2.1; omega, (h r hr).2.2⟩⟩
theorem spec_l23Pair.ex (z : Bool) (l : List Int) (h : l.length ≤ 1048576) (p s : Int) (hp : 0 ≤ p) : ∃ (n : Nat) (tx txs hd : Int) (y : Bool) (rows : List Row) (p' s' : Int), Ev (fun k => spec_l23Pair.f k z l p s) ((n : Int), tx, txs, 4000, hd, y, rows.map Row.t, z, l, p', s') ∧ (1 ≤ n ∧ n ≤ 5) ∧ (0 ≤ tx ∧ tx ≤ 40) ∧ (0 ≤ txs ∧ txs ≤ 8) ∧ (3 ≤ hd ∧ hd ≤ 5) ∧ rows.length = n ∧ (∀ r ∈ rows, rowDrawn r) ∧ 0 ≤ p' := by
  obtain ⟨n0, tx, txs, fr, hd, p1, s1, e1, hp1, _, h2, h3, _, h5⟩ := spec_l10Draw.ex z l h p s hp
  obtain ⟨b, p2, s2, e2, hp2, hb, _⟩ := spec_l01Below.ex z l h p1 s1 5 hp1
  have hb := hb (by decide)
  obtain ⟨m, rfl⟩ := Int.eq_ofNat_of_zero_le hb.1
  obtain ⟨y, rows, p3, s3, e3, q1, q2, q3⟩ := spec_l21Draw.ex z l h p2 s2 hp2 (m + 1) (by omega)
  refine ⟨m + 1, tx, txs, hd, y, rows, p3, s3, ev_step ?_, by omega, h2, h3, h5, q1, q2, q3⟩
  have em : wrap64 (1 + (m : Int)) = ((m + 1 : Nat) : Int) := by rw [w64 (by omega) (by omega)]; omega
  simp only [spec_l23Pair.f, spec_l23Pair.b]
  refine Ev.bind e1 (Ev.bind e2 ?_)
  simp only [em]
  exact Ev.bind e3 (ev_some rfl)
theorem set_ok {b : List Int} (hb : bytesOk b) (i : Nat) (x : Int) : bytesOk (b.set i (x % 256)) := fun y hy => by
  rcases List.mem_or_eq_of_mem_set hy with h | h
  · exact hb y h
  · omega
theorem z32_ok : bytesOk (List.replicate 32 0) := fun y hy => by rw [List.eq_of_mem_replicate hy]; omega
end Go.Proofs.YthocpcfjfgnkgaaG
namespace Go.Proofs.YthocpcfjfgnkgaaG
open Go Go.Proofs.YthocpcfjfgnkgaaRv Go.RowKit
set_option linter.unusedVariables false
set_option linter.unusedSimpArgs false

theorem voteV_yes {a b : Int} {h : List Int} (ha : isNum a = true) (hb : isNum b = true) (hh : h.length = 32) : (voteV a b h).1 = false := by
  unfold voteV
  rw [if_pos ⟨ha, hb, hh⟩]
end Go.Proofs.YthocpcfjfgnkgaaG
namespace Go.Proofs.YthocpcfjfgnkgaaG
open Go Go.Proofs.YthocpcfjfgnkgaaRv Go.RowKit
set_option linter.unusedVariables false
set_option linter.unusedSimpArgs false

def clash (x y : Vt) : Bool := decide (x.v = y.v) && !sameB x.blk y.blk
theorem impl_Twice_1_1_1.ev (y x : Vt) : Ev (fun k => impl_Twice_1_1_1.f k y.v y.h y.bz y.blk y.who y.tz y.tag x.v x.h x.bz x.blk x.who x.tz x.tag) (clash x y) := by
  refine ev_step ?_
  simp only [impl_Twice_1_1_1.f, impl_Twice_1_1_1.b]
  unfold clash
  refine ev_ite (fun q => Ev.bind (impl_SameBytes.ev _ _ _ _) (ev_some ?_)) (fun q => ev_some ?_)
  · rw [decide_eq_true q, Bool.true_and]
  · rw [decide_eq_false q, Bool.false_and]
theorem impl_hasVote_1_v1.evU (z : Bool) (l : List Row) (hl : Rows l) (y : Bool) (vs : List Vt) (hv : NiceV vs) (x : Vt) (u : Vt) (hu : niceB u.blk) (i : Nat) : Ev (fun k => impl_hasVote_1_v1.f k u.v u.h u.bz u.blk u.who u.tz u.tag (i : Int) x.v x.h x.bz x.blk x.who x.tz x.tag z (l.map Row.t)) (decide (u.who = (i : Int)) && (clash x u && vtGood l u)) := by
  refine ev_step ?_
  simp only [impl_hasVote_1_v1.f, impl_hasVote_1_v1.b]
  refine ev_ite (fun q => Ev.bind (impl_Twice_1_1_1.ev u x) (ev_ite (fun q2 => Ev.bind (impl_VoteGood.ev _ _ hl _ _ _ _ hu.1 hu.2 _ _ _) (ev_some ?_)) (fun q2 => ev_some ?_))) (fun q => ev_some ?_)
  · rw [decide_eq_true q, q2]; rfl
  · have q2 : clash x u = false := by simpa using q2
    rw [q2, Bool.false_and, Bool.and_false]
  · rw [decide_eq_false q, Bool.false_and]
theorem impl_hasVote_v1.evU (z : Bool) (l : List Row) (hl : Rows l) (y : Bool) (vs : List Vt) (hv : NiceV vs) (x : Vt) (i : Nat) : Ev (fun k => impl_hasVote_v1.f k z (l.map Row.t) y (vs.map Vt.t) (i : Int) x.v x.h x.bz x.blk x.who x.tz x.tag) (hasP l (clash x) vs i) := by
  have hN := hv.1
  refine ev_step ?_
  simp only [impl_hasVote_v1.f, impl_hasVote_v1.b]
  refine Ev.bind (a := hasP l (clash x) vs i) ?_ (ev_some rfl)
  refine ev_step ?_
  simp only [impl_Vote_v1.f, impl_Vote_v1.b]
  have key : ∀ (d n : Nat), n + d = vs.length → ∃ r : Int, Ev (fun k => impl_Vote_62_v1.l0 k y (vs.map Vt.t) (i : Int) x.v x.h x.bz x.blk x.who x.tz x.tag z (l.map Row.t) (vs.length : Int) (n : Int)) r ∧ (decide (r ≥ 0)) = (vs.drop n).any fun w => decide (w.who = (i : Int)) && (clash x w && vtGood l w) := by
    intro d
    induction d with
    | zero =>
      intro n hn
      refine ⟨-1, ev_step ?_, by rw [List.drop_of_length_le (by omega)]; rfl⟩
      simp only [impl_Vote_62_v1.l0, impl_Vote_62_v1.l0b, List.length_map]
      exact ev_neg (by omega) (ev_some rfl)
    | succ d ih =>
      intro n hn
      have hlt : n < vs.length := by omega
      have hb := hv.2 _ (List.getElem_mem hlt)
      obtain ⟨r, e1, e2⟩ := ih (n + 1) (by omega)
      have H := impl_hasVote_1_v1.evU z l hl y vs hv x vs[n] hb i
      by_cases q : (decide (vs[n].who = (i : Int)) && (clash x vs[n] && vtGood l vs[n])) = true
      · refine ⟨(n : Int), ev_step ?_, ?_⟩
        · simp only [impl_Vote_62_v1.l0, impl_Vote_62_v1.l0b, List.length_map, Int.toNat_natCast, vt_at hlt, Vt.c0, Vt.c1, Vt.c2, Vt.c2z, Vt.c3, Vt.c4, Vt.c4z]
          exact ev_pos (by omega) (ev_pos (by omega) (ev_pos (by omega) (Ev.bind H (ev_pos q (ev_some rfl)))))
        · rw [List.drop_eq_getElem_cons hlt, List.any_cons, q]; simp
      · refine ⟨r, ev_step ?_, ?_⟩
        · simp only [impl_Vote_62_v1.l0, impl_Vote_62_v1.l0b, List.length_map, Int.toNat_natCast, vt_at hlt, Vt.c0, Vt.c1, Vt.c2, Vt.c2z, Vt.c3, Vt.c4, Vt.c4z, succ_nat n (by omega)]
          exact ev_pos (by omega) (ev_pos (by omega) (ev_pos (by omega) (Ev.bind H (ev_neg q e1))))
        · rw [List.drop_eq_getElem_cons hlt, List.any_cons, e2]
          have q : (decide (vs[n].who = (i : Int)) && (clash x vs[n] && vtGood l vs[n])) = false := by simpa using q
          rw [q, Bool.false_or]
  obtain ⟨r, e1, e2⟩ := key vs.length 0 (by omega)
  rw [List.drop_zero] at e2
  refine Ev.bind (a := r) ?_ (ev_some e2)
  refine ev_step ?_
  simp only [impl_Vote_62_v1.f, impl_Vote_62_v1.b, List.length_map]
  exact e1
def twP (l : List Row) (vs : List Vt) (i : Nat) (x : Vt) : Bool := vtGood l x && hasP l (clash x) vs i
theorem impl_Twice_1_1.evU (z : Bool) (l : List Row) (hl : Rows l) (y : Bool) (vs : List Vt) (hv : NiceV vs) (x : Vt) (hx : niceB x.blk) (i : Nat) : Ev (fun k => impl_Twice_1_1.f k x.v x.h x.bz x.blk x.who x.tz x.tag z (l.map Row.t) y (vs.map Vt.t) (i : Int)) (twP l vs i x) := by
  refine ev_step ?_
  simp only [impl_Twice_1_1.f, impl_Twice_1_1.b]
  unfold twP
  refine Ev.bind (impl_VoteGood.ev _ _ hl _ _ _ _ hx.1 hx.2 _ _ _) (ev_ite (fun q => Ev.bind (impl_hasVote_v1.evU z l hl y vs hv x i) (ev_some ?_)) (fun q => ev_some ?_))
  · have q : vtGood l x = true := q
    rw [q, Bool.true_and]
  · have q : vtGood l x = false := by unfold vtGood; simpa using q
    rw [q, Bool.false_and]
theorem impl_hasVote_1.evU (z : Bool) (l : List Row) (hl : Rows l) (y : Bool) (vs : List Vt) (hv : NiceV vs) (u : Vt) (hu : niceB u.blk) (i : Nat) : Ev (fun k => impl_hasVote_1.f k u.v u.h u.bz u.blk u.who u.tz u.tag (i : Int) z (l.map Row.t) y (vs.map Vt.t) (i : Int) z (l.map Row.t)) (decide (u.who = (i : Int)) && (twP l vs i u && vtGood l u)) := by
  refine ev_step ?_
  simp only [impl_hasVote_1.f, impl_hasVote_1.b]
  refine ev_ite (fun q => Ev.bind (impl_Twice_1_1.evU z l hl y vs hv u hu i) (ev_ite (fun q2 => Ev.bind (impl_VoteGood.ev _ _ hl _ _ _ _ hu.1 hu.2 _ _ _) (ev_some ?_)) (fun q2 => ev_some ?_))) (fun q => ev_some ?_)
  · rw [decide_eq_true q, q2]; rfl
  · have q2 : twP l vs i u = false := by simpa using q2
    rw [q2, Bool.false_and, Bool.and_false]
  · rw [decide_eq_false q, Bool.false_and]
theorem impl_hasVote.evU (z : Bool) (l : List Row) (hl : Rows l) (y : Bool) (vs : List Vt) (hv : NiceV vs) (i : Nat) : Ev (fun k => impl_hasVote.f k z (l.map Row.t) y (vs.map Vt.t) (i : Int) z (l.map Row.t) y (vs.map Vt.t) (i : Int)) (hasP l (twP l vs i) vs i) := by
  have hN := hv.1
  refine ev_step ?_
  simp only [impl_hasVote.f, impl_hasVote.b]
  refine Ev.bind (a := hasP l (twP l vs i) vs i) ?_ (ev_some rfl)
  refine ev_step ?_
  simp only [impl_Vote.f, impl_Vote.b]
  have key : ∀ (d n : Nat), n + d = vs.length → ∃ r : Int, Ev (fun k => impl_Vote_62.l0 k y (vs.map Vt.t) (i : Int) z (l.map Row.t) y (vs.map Vt.t) (i : Int) z (l.map Row.t) (vs.length : Int) (n : Int)) r ∧ (decide (r ≥ 0)) = (vs.drop n).any fun w => decide (w.who = (i : Int)) && (twP l vs i w && vtGood l w) := by
    intro d
    induction d with
    | zero =>
      intro n hn
      refine ⟨-1, ev_step ?_, by rw [List.drop_of_length_le (by omega)]; rfl⟩
      simp only [impl_Vote_62.l0, impl_Vote_62.l0b, List.length_map]
      exact ev_neg (by omega) (ev_some rfl)
    | succ d ih =>
      intro n hn
      have hlt : n < vs.length := by omega
      have hb := hv.2 _ (List.getElem_mem hlt)
      obtain ⟨r, e1, e2⟩ := ih (n + 1) (by omega)
      have H := impl_hasVote_1.evU z l hl y vs hv vs[n] hb i
      by_cases q : (decide (vs[n].who = (i : Int)) && (twP l vs i vs[n] && vtGood l vs[n])) = true
      · refine ⟨(n : Int), ev_step ?_, ?_⟩
        · simp only [impl_Vote_62.l0, impl_Vote_62.l0b, List.length_map, Int.toNat_natCast, vt_at hlt, Vt.c0, Vt.c1, Vt.c2, Vt.c2z, Vt.c3, Vt.c4, Vt.c4z]
          exact ev_pos (by omega) (ev_pos (by omega) (ev_pos (by omega) (Ev.bind H (ev_pos q (ev_some rfl)))))
        · rw [List.drop_eq_getElem_cons hlt, List.any_cons, q]; simp
      · refine ⟨r, ev_step ?_, ?_⟩
        · simp only [impl_Vote_62.l0, impl_Vote_62.l0b, List.length_map, Int.toNat_natCast, vt_at hlt, Vt.c0, Vt.c1, Vt.c2, Vt.c2z, Vt.c3, Vt.c4, Vt.c4z, succ_nat n (by omega)]
          exact ev_pos (by omega) (ev_pos (by omega) (ev_pos (by omega) (Ev.bind H (ev_neg q e1))))
        · rw [List.drop_eq_getElem_cons hlt, List.any_cons, e2]
          have q : (decide (vs[n].who = (i : Int)) && (twP l vs i vs[n] && vtGood l vs[n])) = false := by simpa using q
          rw [q, Bool.false_or]
  obtain ⟨r, e1, e2⟩ := key vs.length 0 (by omega)
  rw [List.drop_zero] at e2
  refine Ev.bind (a := r) ?_ (ev_some e2)
  refine ev_step ?_
  simp only [impl_Vote_62.f, impl_Vote_62.b, List.length_map]
  exact e1
def has2 (l : List Row) (vs : List Vt) (i : Nat) : Bool := hasP l (twP l vs i) vs i
def tw (l : List Row) (x y : Vt) : Bool := decide (x.who = y.who) && (decide (x.v = y.v) && (!sameB x.blk y.blk && (vtGood l x && vtGood l y)))
def inn (l : List Row) (x : Vt) (ys : List Vt) : List Nat := (ys.filter (tw l x)).map fun _ => x.who.toNat
def own2 (l : List Row) (vs : List Vt) (n : Nat) : List Nat := (List.range n).flatMap fun i => match vs[i]? with | some x => inn l x (vs.take i) | none => []
theorem mem_own2 {l : List Row} {vs : List Vt} {j : Nat} : j ∈ own2 l vs vs.length ↔ ∃ (a b : Nat) (ha : a < vs.length) (hb : b < vs.length), b < a ∧ tw l vs[a] vs[b] = true ∧ vs[a].who.toNat = j := by
  unfold own2
  constructor
  · intro h
    obtain ⟨a, ha, h⟩ := List.mem_flatMap.1 h
    have ha : a < vs.length := by simpa using ha
    rw [List.getElem?_eq_getElem ha] at h
    obtain ⟨y, hy, rfl⟩ := List.mem_map.1 h
    obtain ⟨hy, ht⟩ := List.mem_filter.1 hy
    obtain ⟨b, hb, rfl⟩ := List.getElem_of_mem hy
    rw [List.length_take] at hb
    rw [List.getElem_take] at ht
    exact ⟨a, b, ha, by omega, by omega, ht, rfl⟩
  · rintro ⟨a, b, ha, hb, hab, ht, rfl⟩
    refine List.mem_flatMap.2 ⟨a, List.mem_range.2 ha, ?_⟩
    rw [List.getElem?_eq_getElem ha]
    refine List.mem_map.2 ⟨vs[b], List.mem_filter.2 ⟨?_, ht⟩, rfl⟩
    have : b < (vs.take a).length := by rw [List.length_take]; omega
    have := List.getElem_mem this
    rwa [List.getElem_take] at this
theorem tw_symm {l : List Row} {x y : Vt} (h : tw l x y = true) : tw l y x = true := by
  unfold tw at h ⊢
  simp only [Bool.and_eq_true, decide_eq_true_eq, Bool.not_eq_true'] at h ⊢
  exact ⟨h.1.symm, h.2.1.symm, by rw [sameB_comm]; exact h.2.2.1, h.2.2.2.2, h.2.2.2.1⟩
theorem tw_self {l : List Row} {x : Vt} : tw l x x = false := by
  unfold tw
  rw [sameB_refl]
  simp
theorem mem_both {l : List Row} {vs : List Vt} {j : Nat} : j ∈ own2 l vs vs.length ↔ j ∈ ownP l (has2 l vs) := by
  rw [mem_own2]
  constructor
  · rintro ⟨a, b, ha, hb, hab, ht, rfl⟩
    unfold tw at ht
    simp only [Bool.and_eq_true, decide_eq_true_eq] at ht
    have w1 := vtGood_whoP ht.2.2.2.1
    have e : vs[a].who = ((vs[a].who.toNat : Nat) : Int) := by omega
    refine List.mem_filter.2 ⟨List.mem_range.2 (by omega), List.any_eq_true.2 ⟨vs[a], List.getElem_mem ha, ?_⟩⟩
    simp only [twP, Bool.and_eq_true, decide_eq_true_eq]
    refine ⟨e, ⟨ht.2.2.2.1, List.any_eq_true.2 ⟨vs[b], List.getElem_mem hb, ?_⟩⟩, ht.2.2.2.1⟩
    simp only [clash, Bool.and_eq_true, decide_eq_true_eq]
    exact ⟨by rw [← ht.1]; exact e, ⟨ht.2.1, ht.2.2.1⟩, ht.2.2.2.2⟩
  · intro h
    obtain ⟨hj, h⟩ := List.mem_filter.1 h
    obtain ⟨x, hx, h⟩ := List.any_eq_true.1 h
    simp only [twP, Bool.and_eq_true, decide_eq_true_eq] at h
    obtain ⟨e1, ⟨gx, h⟩, _⟩ := h
    obtain ⟨y, hy, h⟩ := List.any_eq_true.1 h
    simp only [clash, Bool.and_eq_true, decide_eq_true_eq] at h
    obtain ⟨e2, ⟨evw, eb⟩, gy⟩ := h
    obtain ⟨a, ha, rfl⟩ := List.getElem_of_mem hx
    obtain ⟨b, hb, rfl⟩ := List.getElem_of_mem hy
    have ht : tw l vs[a] vs[b] = true := by
      unfold tw
      simp only [Bool.and_eq_true, decide_eq_true_eq]
      exact ⟨by rw [e1, e2], evw, eb, gx, gy⟩
    rcases Nat.lt_trichotomy a b with hab | hab | hab
    · exact ⟨b, a, hb, ha, hab, tw_symm ht, by omega⟩
    · subst hab
      rw [tw_self] at ht
      cases ht
    · exact ⟨a, b, ha, hb, hab, ht, by omega⟩
theorem own2_lt {l : List Row} {vs : List Vt} : ∀ i ∈ own2 l vs vs.length, i < l.length := fun i hi => ownP_lt (l := l) (p := has2 l vs) i (mem_both.1 hi)
def twiceV (l : List Row) (vs : List Vt) : Bool × List Int := if tabOk l = true then (false, bitsOf l.length (own2 l vs vs.length)) else (true, [])
theorem impl_whoOf.evX (z : Bool) (l : List Row) (hl : Rows l) (y : Bool) (vs : List Vt) (hv : NiceV vs) : Ev (fun k => impl_whoOf.f k z (l.map Row.t) z (l.map Row.t) y (vs.map Vt.t)) (twiceV l vs) := by
  refine ev_step ?_
  simp only [impl_whoOf.f, impl_whoOf.b, List.length_map]
  unfold twiceV
  refine Ev.bind (impl_TableOk.ev _ _ hl.few) (ev_ite (fun c0 => ev_some (by rw [if_neg (by simpa using c0)])) (fun c0 => ?_))
  have c0 : tabOk l = true := by simpa using c0
  rw [if_pos c0]
  have hn := (tabOk_iff.1 c0).2
  have B := impl_BitsOf.ev l.length hn.1 hn.2 false (ownP l (has2 l vs)) ownP_lt (by unfold ownP; exact Nat.le_trans (List.length_filter_le _ _) (by simp; omega))
  have same : bitsOf l.length (own2 l vs vs.length) = bitsOf l.length (ownP l (has2 l vs)) := bits_same hn.1 hn.2 own2_lt ownP_lt fun j => mem_both
  rw [same]
  have W : ∀ i : Nat, Ev (fun k => impl_Twice_1.f k (i : Int) z (l.map Row.t) y (vs.map Vt.t)) (has2 l vs i) := fun i => by
    refine ev_step ?_
    simp only [impl_Twice_1.f, impl_Twice_1.b]
    exact Ev.bind (impl_hasVote.evU z l hl y vs hv i) (ev_some rfl)
  have key : ∀ (d n : Nat), n + d = l.length → Ev (fun k => impl_whoOf.l0 k z (l.map Row.t) y (vs.map Vt.t) (castL ((List.range n).filter (has2 l vs))) (l.length : Int) (n : Int) z (l.map Row.t)) (false, bitsOf l.length (ownP l (has2 l vs))) := by
    intro d
    induction d with
    | zero =>
      intro n hn
      have hn' : n = l.length := by omega
      refine ev_step ?_
      simp only [impl_whoOf.l0, impl_whoOf.l0b, List.length_map]
      rw [hn']
      exact ev_neg (by omega) (Ev.bind B (ev_some rfl))
    | succ d ih =>
      intro n hn
      have i2 := ih (n + 1) (by omega)
      have hf := List.length_filter_le (has2 l vs) (List.range n)
      rw [List.length_range] at hf
      have hlen := castL_len ((List.range n).filter (has2 l vs))
      rw [List.range_succ, List.filter_append] at i2
      refine ev_step ?_
      simp only [impl_whoOf.l0, impl_whoOf.l0b, succ_nat n (by omega)]
      refine ev_pos (by omega) (Ev.bind (W n) (ev_ite (fun q => ev_pos (by rw [hlen]; omega) ?_) (fun q => ?_)))
      · simp only [List.filter_cons, q, if_true, List.filter_nil, castL, List.map_append, List.map_cons, List.map_nil] at i2 ⊢
        exact i2
      · simp only [List.filter_cons, if_neg q, List.filter_nil, List.append_nil] at i2
        exact i2
  exact key l.length 0 (by omega)
theorem impl_Twice.ev (z : Bool) (l : List Row) (hl : Rows l) (y : Bool) (vs : List Vt) (hv : NiceV vs) : Ev (fun k => impl_Twice.f k z (l.map Row.t) y (vs.map Vt.t)) (twiceV l vs) := by
  refine ev_step ?_
  simp only [impl_Twice.f, impl_Twice.b]
  exact Ev.bind (impl_whoOf.evX z l hl y vs hv) (ev_some rfl)
end Go.Proofs.YthocpcfjfgnkgaaG
namespace Go.Proofs.YthocpcfjfgnkgaaG
open Go Go.Proofs.YthocpcfjfgnkgaaRv Go.RowKit
set_option linter.unusedVariables false
set_option linter.unusedSimpArgs false

theorem spec_l01Once.ex (z : Bool) (l : List Int) (h : l.length ≤ 1048576) (p s n : Int) (hp : 0 ≤ p) : ∃ (b : Bool) (p' s' : Int), Ev (fun k => spec_l01Once.f k z l p s n) (b, z, l, p', s') ∧ 0 ≤ p' := by
  obtain ⟨b, p1, s1, e, hp1, _⟩ := spec_l01Below.ex z l h p s n hp
  refine ⟨decide (b = 0), p1, s1, ev_step ?_, hp1⟩
  simp only [spec_l01Once.f, spec_l01Once.b]
  exact Ev.bind e (ev_some rfl)

section
variable {l : List Row} (T : tabOk l = true)
include T
theorem sign_yes {v h : Int} {blk : List Int} (hv : (voteV v h blk).1 = false) {m : Nat} (hm : m < l.length) : signVote l v h blk (m : Int) = (v, h, false, blk, (m : Int), false, mac l[m].f1 (voteV v h blk).2, true) := by
  unfold signVote
  rw [if_pos ⟨T, hv, by omega, by omega⟩]
  simp [hm]
end
section
variable {l : List Row} (T : tabOk l = true)
include T
end
end Go.Proofs.YthocpcfjfgnkgaaG
namespace Go.Proofs.YthocpcfjfgnkgaaG
open Go Go.Proofs.YthocpcfjfgnkgaaRv Go.RowKit
set_option linter.unusedVariables false
set_option linter.unusedSimpArgs false

def FullV (l : List Vt) : Prop := l.length ≤ 1048576 ∧ ∀ x ∈ l, niceB x.blk ∧ niceB x.tag
end Go.Proofs.YthocpcfjfgnkgaaG
namespace Go.Proofs.YthocpcfjfgnkgaaG
open Go Go.Proofs.YthocpcfjfgnkgaaRv Go.RowKit
set_option linter.unusedVariables false
set_option linter.unusedSimpArgs false

section
variable {l : List Row} {v h : Int} {blk : List Int} {vs : List Vt}
end
end Go.Proofs.YthocpcfjfgnkgaaG
namespace Go.Proofs.YthocpcfjfgnkgaaG
open Go Go.Proofs.YthocpcfjfgnkgaaRv Go.RowKit
set_option linter.unusedVariables false
set_option linter.unusedSimpArgs false

theorem spec_l01Near.ex (z : Bool) (l : List Int) (h : l.length ≤ 1048576) (p s : Int) (hp : 0 ≤ p) : ∃ b p' s', Ev (fun k => spec_l01Near.f k z l p s 0 2) (b, z, l, p', s') ∧ 0 ≤ p' := by
  obtain ⟨b, p1, s1, e, hp1, _⟩ := spec_l01Below.ex z l h p s 12 hp
  by_cases c0 : b = 0
  · refine ⟨0, p1, s1, ev_step ?_, hp1⟩
    simp only [spec_l01Near.f, spec_l01Near.b]
    exact Ev.bind e (ev_pos c0 (ev_some rfl))
  by_cases c1 : b = 1
  · refine ⟨2, p1, s1, ev_step ?_, hp1⟩
    simp only [spec_l01Near.f, spec_l01Near.b]
    exact Ev.bind e (ev_neg c0 (ev_pos c1 (ev_some rfl)))
  by_cases c2 : b = 2
  · refine ⟨wrap64 (0 - 1), p1, s1, ev_step ?_, hp1⟩
    simp only [spec_l01Near.f, spec_l01Near.b]
    exact Ev.bind e (ev_neg c0 (ev_neg c1 (ev_pos c2 (ev_some rfl))))
  by_cases c3 : b = 3
  · refine ⟨wrap64 (2 + 1), p1, s1, ev_step ?_, hp1⟩
    simp only [spec_l01Near.f, spec_l01Near.b]
    exact Ev.bind e (ev_neg c0 (ev_neg c1 (ev_neg c2 (ev_pos c3 (ev_some rfl)))))
  by_cases c4 : b = 4
  · obtain ⟨d, p2, s2, e2, hp2, _⟩ := spec_l01Pick.ex z l h p1 s1 false ([9223372036854775807, (-9223372036854775808), (-1), 0, 1152921504606846975, 1152921504606846976] : List Int) hp1 (by decide)
    refine ⟨d, p2, s2, ev_step ?_, hp2⟩
    simp only [spec_l01Near.f, spec_l01Near.b]
    exact Ev.bind e (ev_neg c0 (ev_neg c1 (ev_neg c2 (ev_neg c3 (ev_pos c4 (Ev.bind e2 (ev_some rfl)))))))
  · have w2 : wrap64 ((2 : Int) - 0) = 2 := by rw [w64 (by omega) (by omega)]; rfl
    obtain ⟨d, p2, s2, e2, hp2, _⟩ := spec_l01Below.ex z l h p1 s1 (wrap64 ((2 : Int) + 1)) hp1
    refine ⟨wrap64 (0 + d), p2, s2, ev_step ?_, hp2⟩
    simp only [spec_l01Near.f, spec_l01Near.b, w2]
    exact Ev.bind e (ev_neg c0 (ev_neg c1 (ev_neg c2 (ev_neg c3 (ev_neg c4 (ev_neg (by omega) (Ev.bind e2 (ev_some rfl))))))))
def voteDrawn (x : Vt) : Prop := (x.blk.length = 32 ∧ bytesOk x.blk) ∧ (x.tag.length = 32 ∧ bytesOk x.tag) ∧ x.h = 1
theorem spec_l28Votes.ex0 (z : Bool) (l : List Int) (h : l.length ≤ 1048576) (y : Bool) (rows : List Row) (T : tabOk rows = true) (R : Rows rows) : ∀ (d : Nat) (p s : Int) (vs : List Vt), d ≤ 12 → vs.length + d ≤ 12 → (∀ x ∈ vs, voteDrawn x) → 0 ≤ p → ∃ (vs' : List Vt) (p' s' : Int), Ev (fun k => spec_l28Votes.l0 k (vs.map Vt.t) (d : Int) z l p s y (rows.map Row.t)) (false, vs'.map Vt.t, z, l, p', s') ∧ vs'.length ≤ 12 ∧ ∀ x ∈ vs', voteDrawn x := by
  intro d
  induction d with
  | zero =>
    intro p s vs h1 h2 hv hp
    refine ⟨vs, p, s, ev_step ?_, by omega, hv⟩
    simp only [spec_l28Votes.l0, spec_l28Votes.l0b]
    exact ev_neg (by omega) (ev_some rfl)
  | succ d ih =>
    intro p s vs h1 h2 hv hp
    have hn := (tabOk_iff.1 T).2
    obtain ⟨b, p1, s1, e1, hp1, _⟩ := spec_l01Below.ex z l h p s 2 hp
    obtain ⟨v, p2, s2, e2, hp2, v0, _⟩ := spec_l01Below.ex z l h p1 s1 2 hp1
    have v0 := v0 (by decide)
    obtain ⟨w, p3, s3, e3, hp3, w0, _⟩ := spec_l01Below.ex z l h p2 s2 (rows.length : Int) hp2
    have w0 := w0 (by omega)
    obtain ⟨m, rfl⟩ := Int.eq_ofNat_of_zero_le w0.1
    have hm : m < rows.length := by omega
    have hB : bytesOk ((List.replicate 32 (0 : Int)).set 0 (b % 256)) := set_ok z32_ok _ _
    have hL : ((List.replicate 32 (0 : Int)).set 0 (b % 256)).length = 32 := by simp
    generalize hbk : (List.replicate 32 (0 : Int)).set 0 (b % 256) = blk at hB hL
    have nv : isNum v = true := by unfold isNum; exact decide_eq_true (by omega)
    have S := spec_SignVote.ev y rows R v 1 false blk (by omega) hB (m : Int)
    rw [sign_yes T (voteV_yes nv (by decide) hL) hm] at S
    have mk := mac_spec rows[m].f1 (voteV v 1 blk).2
    generalize mac rows[m].f1 (voteV v 1 blk).2 = tag at S mk
    obtain ⟨q, p4, s4, e4, hp4⟩ := spec_l01Once.ex z l h p3 s3 8 hp3
    have wd : wrap64 (((d + 1 : Nat) : Int) - 1) = (d : Int) := by rw [w64 (by omega) (by omega)]; omega
    have add : ∀ (u : Int), ∀ x ∈ vs ++ [⟨u, 1, false, blk, (m : Int), false, tag⟩], voteDrawn x := fun u x hx => by
      rcases List.mem_append.1 hx with hx | hx
      · exact hv x hx
      · rw [List.mem_singleton.1 hx]
        exact ⟨⟨hL, hB⟩, ⟨mk.1, mk.2⟩, rfl⟩
    cases q with
    | true =>
      obtain ⟨u, p5, s5, e5, hp5⟩ := spec_l01Near.ex z l h p4 s4 hp4
      obtain ⟨vs', p', s', ee, r⟩ := ih p5 s5 (vs ++ [⟨u, 1, false, blk, (m : Int), false, tag⟩]) (by omega) (by rw [List.length_append]; simp; omega) (add u) hp5
      refine ⟨vs', p', s', ev_step ?_, r⟩
      rw [List.map_append] at ee
      simp only [spec_l28Votes.l0, spec_l28Votes.l0b, List.length_map, wd]
      refine ev_pos (by omega) (Ev.bind e1 (ev_pos (by simp) (Ev.bind e2 (Ev.bind e3 ?_))))
      simp only [hbk]
      exact Ev.bind S (Ev.bind e4 (ev_pos rfl (Ev.bind e5 (ev_pos (by omega) ee))))
    | false =>
      obtain ⟨vs', p', s', ee, r⟩ := ih p4 s4 (vs ++ [⟨v, 1, false, blk, (m : Int), false, tag⟩]) (by omega) (by rw [List.length_append]; simp; omega) (add v) hp4
      refine ⟨vs', p', s', ev_step ?_, r⟩
      rw [List.map_append] at ee
      simp only [spec_l28Votes.l0, spec_l28Votes.l0b, List.length_map, wd]
      refine ev_pos (by omega) (Ev.bind e1 (ev_pos (by simp) (Ev.bind e2 (Ev.bind e3 ?_))))
      simp only [hbk]
      exact Ev.bind S (Ev.bind e4 (ev_neg (by simp) (ev_pos (by omega) ee)))
theorem spec_MakeVotes.ex (z : Bool) (l : List Int) (h : l.length ≤ 1048576) : ∃ (n : Nat) (tx txs hd : Int) (y : Bool) (rows : List Row) (vs : List Vt), Ev (fun k => spec_MakeVotes.f k z l) ((n : Int), tx, txs, 4000, hd, y, rows.map Row.t, false, vs.map Vt.t) ∧ (1 ≤ n ∧ n ≤ 5) ∧ (0 ≤ tx ∧ tx ≤ 40) ∧ (0 ≤ txs ∧ txs ≤ 8) ∧ (3 ≤ hd ∧ hd ≤ 5) ∧ rows.length = n ∧ (∀ r ∈ rows, rowDrawn r) ∧ vs.length ≤ 12 ∧ ∀ x ∈ vs, voteDrawn x := by
  obtain ⟨s, e⟩ := spec_l01New.ex z l h
  obtain ⟨n, tx, txs, hd, y, rows, p1, s1, e1, h1, h2, h3, h4, h5, h6, hp1⟩ := spec_l23Pair.ex z l h 0 s (by omega)
  have T := drawn_ok h6 (by omega) (by omega)
  have R := drawn_rows h6 (by omega)
  obtain ⟨b, p2, s2, e2, hp2, hb, _⟩ := spec_l01Below.ex z l h p1 s1 (wrap64 ((12 : Int) + 1)) hp1
  have ew : wrap64 ((12 : Int) + 1) = 13 := by rw [w64 (by omega) (by omega)]; rfl
  have hb := hb (by rw [ew]; omega)
  rw [ew] at hb
  clear ew
  obtain ⟨m, rfl⟩ := Int.eq_ofNat_of_zero_le hb.1
  obtain ⟨vs, p3, s3, e3, r⟩ := spec_l28Votes.ex0 z l h y rows T R m p2 s2 [] (by omega) (by simp; omega) (by simp) hp2
  have E : Ev (fun k => spec_l28Votes.f k z l p1 s1 y (rows.map Row.t) 12) (false, vs.map Vt.t, z, l, p3, s3) := by
    refine ev_step ?_
    simp only [spec_l28Votes.f, spec_l28Votes.b]
    exact Ev.bind e2 e3
  refine ⟨n, tx, txs, hd, y, rows, vs, ev_step ?_, h1, h2, h3, h4, h5, h6, r⟩
  simp only [spec_MakeVotes.f, spec_MakeVotes.b]
  exact Ev.bind e (Ev.bind e1 (Ev.bind E (ev_some rfl)))
theorem drawn_full {vs : List Vt} (h1 : vs.length ≤ 12) (h : ∀ x ∈ vs, voteDrawn x) : FullV vs := ⟨by omega, fun x hx => by
  obtain ⟨⟨a1, a2⟩, ⟨b1, b2⟩, _⟩ := h x hx
  exact ⟨⟨by show _ ≤ _; omega, a2⟩, ⟨by show _ ≤ _; omega, b2⟩⟩⟩
end Go.Proofs.YthocpcfjfgnkgaaG
namespace Go.Proofs.YthocpcfjfgnkgaaG
open Go Go.Lib
set_option linter.unusedVariables false
set_option linter.unusedSimpArgs false

theorem bang_get {zs : List Int} {m : Nat} (h : m < zs.length) : zs.toArray[m]! = zs[m] := by
  rw [getElem!_pos _ m (by simpa using h)]
  simp
theorem compact_up {zs : List Int} (hs : zs.Pairwise (· ≤ ·)) : ∀ m, m ≤ zs.length → (compactUpTo zs.toArray m).Pairwise (· < ·) ∧ (∀ x, x ∈ compactUpTo zs.toArray m ↔ x ∈ zs.take m)
  | 0, _ => by simp [compactUpTo]
  | m + 1, h => by
    obtain ⟨h1, h2⟩ := compact_up hs m (by omega)
    have hm : m < zs.length := by omega
    have g := bang_get hm
    rw [compactUpTo_succ, List.take_succ_eq_append_getElem hm, g]
    have ord : ∀ x ∈ zs.take m, x ≤ zs[m] := fun x hx => by
      obtain ⟨i, hi, rfl⟩ := List.getElem_of_mem hx
      rw [List.length_take] at hi
      rw [List.getElem_take]
      exact List.pairwise_iff_getElem.1 hs i m (by omega) hm (by omega)
    cases q : keeps zs.toArray m with
    | true =>
      simp only [if_true]
      refine ⟨List.pairwise_append.2 ⟨h1, List.pairwise_singleton _ _, fun x hx y hy => ?_⟩, fun x => by rw [List.mem_append, List.mem_append, h2 x]⟩
      rw [List.mem_singleton.1 hy]
      have hx' := (h2 x).1 hx
      have le := ord x hx'
      by_cases m0 : m = 0
      · subst m0
        simp at hx'
      · have hm1 : m - 1 < zs.length := by omega
        have g1 := bang_get hm1
        have le1 : x ≤ zs[m - 1] := by
          obtain ⟨i, hi, rfl⟩ := List.getElem_of_mem hx'
          rw [List.length_take] at hi
          rw [List.getElem_take]
          by_cases e : i = m - 1
          · subst e; exact Int.le_refl _
          · exact List.pairwise_iff_getElem.1 hs i (m - 1) (by omega) hm1 (by omega)
        have ne : zs[m] ≠ zs[m - 1] := fun e => by
          have := keeps_neg (d := zs.toArray) (m := m) (by omega) (by rw [g, g1, e])
          rw [q] at this
          cases this
        have le2 : zs[m - 1] ≤ zs[m] := List.pairwise_iff_getElem.1 hs (m - 1) m hm1 hm (by omega)
        omega
    | false =>
      simp only [Bool.false_eq_true, if_false, List.append_nil]
      refine ⟨h1, fun x => ?_⟩
      rw [h2 x, List.mem_append]
      refine ⟨Or.inl, fun hx => hx.elim id fun hx => ?_⟩
      rw [List.mem_singleton.1 hx]
      have m0 : m ≠ 0 := fun e => by
        subst e
        rw [keeps_lt_one _ 0 (by omega)] at q
        cases q
      have hm1 : m - 1 < zs.length := by omega
      have e : zs[m] = zs[m - 1] := Classical.byContradiction fun hne => by
        have := keeps_pos (d := zs.toArray) (m := m) (by rw [g, bang_get hm1]; exact hne)
        rw [q] at this
        cases this
      rw [e]
      have hl : m - 1 < (zs.take m).length := by rw [List.length_take]; omega
      have := List.getElem_mem hl
      rwa [List.getElem_take] at this
theorem compact_sorted {zs : List Int} (hs : zs.Pairwise (· ≤ ·)) : (compact zs).Pairwise (· < ·) ∧ ∀ x, x ∈ compact zs ↔ x ∈ zs := by
  have := compact_up hs zs.length (Nat.le_refl _)
  rw [List.take_length] at this
  exact this
theorem sorted_extI : ∀ {a b : List Int}, a.Pairwise (· < ·) → b.Pairwise (· < ·) → (∀ x, x ∈ a ↔ x ∈ b) → a = b
  | [], [], _, _, _ => rfl
  | [], y :: b, _, _, h => by have := (h y).2 (by simp); simp at this
  | x :: a, [], _, _, h => by have := (h x).1 (by simp); simp at this
  | x :: a, y :: b, ha, hb, h => by
    rw [List.pairwise_cons] at ha hb
    have e : x = y := by
      rcases List.mem_cons.1 ((h x).1 (by simp)) with e | e
      · exact e
      · rcases List.mem_cons.1 ((h y).2 (by simp)) with e' | e'
        · exact e'.symm
        · have h1 := hb.1 x e
          have h2 := ha.1 y e'
          omega
    subst e
    congr 1
    refine sorted_extI ha.2 hb.2 (fun z => ⟨fun hz => ?_, fun hz => ?_⟩)
    · have h1 := ha.1 z hz
      rcases List.mem_cons.1 ((h z).1 (by simp [hz])) with e | e
      · omega
      · exact e
    · have h1 := hb.1 z hz
      rcases List.mem_cons.1 ((h z).2 (by simp [hz])) with e | e
      · omega
      · exact e
theorem tw_all (p : Int → Bool) : ∀ (l : List Int), ∀ y ∈ l.takeWhile p, p y = true
  | [], y, h => by simp at h
  | x :: l, y, h => by
    rw [List.takeWhile_cons] at h
    split at h
    · rename_i q
      rcases List.mem_cons.1 h with rfl | h
      · exact q
      · exact tw_all p l y h
    · cases h

def putI (x : Int) (l : List Int) : List Int := if x ∈ l then l else (l.takeWhile fun y => decide (y < x)) ++ (x :: l.dropWhile fun y => decide (y < x))
theorem putI_spec {x : Int} {l : List Int} (hs : l.Pairwise (· < ·)) : (putI x l).Pairwise (· < ·) ∧ ∀ y, y ∈ putI x l ↔ y = x ∨ y ∈ l := by
  unfold putI
  split
  · rename_i h
    exact ⟨hs, fun y => ⟨Or.inr, fun hy => hy.elim (fun e => e ▸ h) id⟩⟩
  · rename_i h
    have e : l.takeWhile (fun y => decide (y < x)) ++ l.dropWhile (fun y => decide (y < x)) = l := List.takeWhile_append_dropWhile
    have ht : ∀ y ∈ l.takeWhile (fun y => decide (y < x)), y < x := fun y hy => by
      have := tw_all _ _ y hy
      simpa using this
    have hs2 := hs
    rw [← e] at hs2
    obtain ⟨p1, p2, p3⟩ := List.pairwise_append.1 hs2
    have hd : ∀ y ∈ l.dropWhile (fun y => decide (y < x)), x < y := fun y hy => by
      cases q : l.dropWhile (fun y => decide (y < x)) with
      | nil => rw [q] at hy; cases hy
      | cons z t =>
        have hz : ¬ z < x := by
          have := List.head?_dropWhile_not (fun y => decide (y < x)) l
          rw [q] at this
          simpa using this
        have hzm : z ∈ l := by
          rw [← e, q]
          simp
        have hzx : x < z := by
          have : z ≠ x := fun ee => h (ee ▸ hzm)
          omega
        rw [q] at hy p2
        rcases List.mem_cons.1 hy with rfl | hy
        · exact hzx
        · have := (List.pairwise_cons.1 p2).1 y hy
          omega
    refine ⟨List.pairwise_append.2 ⟨p1, List.pairwise_cons.2 ⟨hd, p2⟩, fun a ha b hb => ?_⟩, fun y => ?_⟩
    · rcases List.mem_cons.1 hb with rfl | hb
      · exact ht a ha
      · exact p3 a ha b hb
    · rw [List.mem_append, List.mem_cons]
      have : y ∈ l ↔ y ∈ l.takeWhile (fun y => decide (y < x)) ∨ y ∈ l.dropWhile (fun y => decide (y < x)) := by
        conv => lhs; rw [← e]
        rw [List.mem_append]
      rw [this]
      constructor
      · rintro (h | h | h)
        · exact .inr (.inl h)
        · exact .inl h
        · exact .inr (.inr h)
      · rintro (h | h | h)
        · exact .inr (.inl h)
        · exact .inl h
        · exact .inr (.inr h)
theorem puts_spec : ∀ (xs acc : List Int), acc.Pairwise (· < ·) → (xs.foldl (fun l x => putI x l) acc).Pairwise (· < ·) ∧ ∀ y, y ∈ xs.foldl (fun l x => putI x l) acc ↔ y ∈ xs ∨ y ∈ acc
  | [], acc, h => ⟨h, fun y => by simp⟩
  | x :: xs, acc, h => by
    obtain ⟨p1, p2⟩ := putI_spec (x := x) h
    obtain ⟨q1, q2⟩ := puts_spec xs (putI x acc) p1
    refine ⟨q1, fun y => ?_⟩
    rw [List.foldl_cons, q2 y, p2 y, List.mem_cons]
    constructor
    · rintro (h | h | h)
      · exact .inl (.inr h)
      · exact .inl (.inl h)
      · exact .inr h
    · rintro ((h | h) | h)
      · exact .inr (.inl h)
      · exact .inl h
      · exact .inr (.inr h)
theorem views_same (xs : List Int) : compact (xs.mergeSort fun x y => decide (x ≤ y)) = xs.foldl (fun l x => putI x l) [] := by
  have hs : (xs.mergeSort fun x y => decide (x ≤ y)).Pairwise (· ≤ ·) := by
    have := List.pairwise_mergeSort (le := fun x y : Int => decide (x ≤ y)) (fun a b c h1 h2 => by simp at h1 h2 ⊢; omega) (fun a b => by simp; omega) xs
    exact this.imp fun h => by simpa using h
  obtain ⟨c1, c2⟩ := compact_sorted hs
  obtain ⟨p1, p2⟩ := puts_spec xs [] List.Pairwise.nil
  refine sorted_extI c1 p1 fun x => ?_
  rw [c2 x, p2 x, List.mem_mergeSort]
  simp
end Go.Proofs.YthocpcfjfgnkgaaG
namespace Go.Proofs.YthocpcfjfgnkgaaG
open Go Go.Proofs.YthocpcfjfgnkgaaRv Go.RowKit
set_option linter.unusedVariables false
set_option linter.unusedSimpArgs false

end Go.Proofs.YthocpcfjfgnkgaaG
namespace Go.Proofs.YthocpcfjfgnkgaaG
open Go Go.Proofs.YthocpcfjfgnkgaaRv Go.RowKit
set_option linter.unusedVariables false
set_option linter.unusedSimpArgs false

def viewsV (vs : List Vt) : List Int := (vs.map fun x => x.v).foldl (fun l x => putI x l) []
theorem putI_len (x : Int) (l : List Int) : (putI x l).length ≤ l.length + 1 := by
  unfold putI
  split
  · omega
  · have e : l.takeWhile (fun y => decide (y < x)) ++ l.dropWhile (fun y => decide (y < x)) = l := List.takeWhile_append_dropWhile
    have := congrArg List.length e
    rw [List.length_append] at this ⊢
    rw [List.length_cons]
    omega
theorem puts_len : ∀ (xs acc : List Int), (xs.foldl (fun l x => putI x l) acc).length ≤ acc.length + xs.length
  | [], acc => by simp
  | x :: xs, acc => by
    have h1 := puts_len xs (putI x acc)
    have h2 := putI_len x acc
    rw [List.foldl_cons, List.length_cons]
    omega
theorem viewsV_len (vs : List Vt) : (viewsV vs).length ≤ vs.length := by
  have := puts_len (vs.map fun x => x.v) []
  rw [List.length_map, List.length_nil] at this
  unfold viewsV
  omega
theorem impl_Views.ev (z : Bool) (vs : List Vt) (hN : vs.length ≤ 1048576) : Ev (fun k => impl_Views.f k z (vs.map Vt.t)) (false, viewsV vs) := by
  refine ev_step ?_
  simp only [impl_Views.f, impl_Views.b, List.length_map]
  have key : ∀ (d n : Nat), n + d = vs.length → Ev (fun k => impl_Views.l0 k ((vs.map fun x => x.v).take n) z (vs.map Vt.t) (vs.length : Int) (n : Int)) (false, viewsV vs) := by
    intro d
    induction d with
    | zero =>
      intro n hn
      refine ev_step ?_
      simp only [impl_Views.l0, impl_Views.l0b]
      rw [List.take_of_length_le (by simp; omega)]
      refine ev_neg (by omega) (Ev.bind (ev_pos (decide_eq_true (by rw [List.length_map]; omega)) (ev_some rfl) : Ev (fun k => slices_Sort__intint.f k false (vs.map fun x => x.v)) (false, sortI (vs.map fun x => x.v))) (Ev.bind (ev_some rfl : Ev (fun k => slices_Compact__intint.f k false (sortI (vs.map fun x => x.v))) (false, compI (sortI (vs.map fun x => x.v)))) (ev_some ?_)))
      show (false, compI (sortI (vs.map fun x => x.v))) = _
      unfold compI sortI viewsV
      rw [views_same]
    | succ d ih =>
      intro n hn
      have hlt : n < vs.length := by omega
      have i2 := ih (n + 1) (by omega)
      rw [List.take_succ_eq_append_getElem (by simpa using hlt)] at i2
      refine ev_step ?_
      simp only [impl_Views.l0, impl_Views.l0b, Int.toNat_natCast, vt_at hlt, Vt.c0, succ_nat n (by omega), List.length_map]
      refine ev_pos (by omega) (ev_pos (by omega) (ev_pos (by omega) (ev_pos ?_ ?_)))
      · rw [List.length_take]; omega
      · simpa using i2
  exact key vs.length 0 (by omega)
end Go.Proofs.YthocpcfjfgnkgaaG
namespace Go.Proofs.YthocpcfjfgnkgaaG
open Go Go.Proofs.YthocpcfjfgnkgaaRv Go.RowKit
set_option linter.unusedVariables false
set_option linter.unusedSimpArgs false

def hit (l : List Row) (w : Nat) (x y : Vt) : Bool := decide (x.who = (w : Int)) && (decide (y.who = (w : Int)) && (decide (x.v = y.v) && (!sameB x.blk y.blk && (vtGood l x && vtGood l y))))
def two (l : List Row) (vs : List Vt) (w a : Nat) : Bool := (List.range a).any fun i => match vs[i]? with | some x => (vs.take i).any (hit l w x) | none => false
theorem two_succ {l : List Row} {vs : List Vt} {w a : Nat} (h : a < vs.length) : two l vs w (a + 1) = (two l vs w a || (vs.take a).any (hit l w vs[a])) := by
  unfold two
  rw [List.range_succ, List.any_append]
  simp [List.getElem?_eq_getElem h]
theorem two_own (l : List Row) (vs : List Vt) (w : Nat) : two l vs w vs.length = decide (w ∈ own2 l vs vs.length) := by
  refine Bool.eq_iff_iff.2 ?_
  rw [decide_eq_true_iff, mem_own2]
  unfold two
  rw [List.any_eq_true]
  constructor
  · rintro ⟨a, ha, h⟩
    have ha := List.mem_range.1 ha
    rw [List.getElem?_eq_getElem ha] at h
    obtain ⟨y, hy, h⟩ := List.any_eq_true.1 h
    obtain ⟨b, hb, rfl⟩ := List.getElem_of_mem hy
    rw [List.length_take] at hb
    rw [List.getElem_take] at h
    simp only [hit, Bool.and_eq_true, decide_eq_true_eq] at h
    refine ⟨a, b, ha, by omega, by omega, ?_, by rw [h.1]; simp⟩
    simp only [tw, Bool.and_eq_true, decide_eq_true_eq]
    exact ⟨by rw [h.1, h.2.1], h.2.2.1, h.2.2.2.1, h.2.2.2.2.1, h.2.2.2.2.2⟩
  · rintro ⟨a, b, ha, hb, hab, ht, rfl⟩
    refine ⟨a, List.mem_range.2 ha, ?_⟩
    rw [List.getElem?_eq_getElem ha]
    have hb' : b < (vs.take a).length := by rw [List.length_take]; omega
    have hm := List.getElem_mem hb'
    rw [List.getElem_take] at hm
    refine List.any_eq_true.2 ⟨vs[b], hm, ?_⟩
    simp only [tw, Bool.and_eq_true, decide_eq_true_eq] at ht
    have w1 := vtGood_whoP ht.2.2.2.1
    have e : vs[a].who = ((vs[a].who.toNat : Nat) : Int) := by omega
    simp only [hit, Bool.and_eq_true, decide_eq_true_eq]
    exact ⟨e, by rw [← ht.1]; exact e, ht.2.1, ht.2.2.1, ht.2.2.2.1, ht.2.2.2.2⟩
theorem laws_FnTwice.ev3 (y : Bool) (l : List Row) (hl : Rows l) (vs : List Vt) (hv : NiceV vs) (bz : Bool) (B : List Int) (c0 c1 c2 c3 c4 : Int) (w a : Nat) (ha : a < vs.length) {R : Bool}
    (nx : Ev (fun k => laws_FnTwice.l1 k false (vs.map Vt.t) bz B (w : Int) (two l vs w (a + 1)) false (vs.map Vt.t) (vs.length : Int) ((a + 1 : Nat) : Int) c0 c1 c2 c3 c4 y (l.map Row.t)) R) :
    ∀ (d n : Nat), n + d = a → Ev (fun k => laws_FnTwice.l3 k false (vs.map Vt.t) bz B (w : Int) (two l vs w a || (vs.take n).any (hit l w vs[a])) false (vs.map Vt.t) (vs.length : Int) (a : Int) false ((vs.take a).map Vt.t) (a : Int) (n : Int) c0 c1 c2 c3 c4 y (l.map Row.t) vs[a].v vs[a].h vs[a].bz vs[a].blk vs[a].who vs[a].tz vs[a].tag) R := by
  have hN := hv.1
  have hb := hv.2 _ (List.getElem_mem ha)
  intro d
  induction d with
  | zero =>
    intro n hn
    have hn' : n = a := by omega
    subst hn'
    rw [two_succ ha] at nx
    refine ev_step ?_
    simp only [laws_FnTwice.l3, laws_FnTwice.l3b, succ_nat n (by omega)]
    exact ev_neg (by omega) nx
  | succ d ih =>
    intro n hn
    have hlt : n < vs.length := by omega
    have hlt2 : n < (vs.take a).length := by rw [List.length_take]; omega
    have hc := hv.2 _ (List.getElem_mem hlt)
    have hg : (vs.take a)[n] = vs[n] := List.getElem_take
    have i2 := ih (n + 1) (by omega)
    have es : (vs.take (n + 1)).any (hit l w vs[a]) = ((vs.take n).any (hit l w vs[a]) || hit l w vs[a] vs[n]) := by
      rw [List.take_succ_eq_append_getElem hlt, List.any_append]
      simp
    rw [es, ← Bool.or_assoc] at i2
    generalize (two l vs w a || (vs.take n).any (hit l w vs[a])) = f at *
    have no : f = false → hit l w vs[a] vs[n] = false → Ev (fun k => laws_FnTwice.l3 k false (vs.map Vt.t) bz B (w : Int) false false (vs.map Vt.t) (vs.length : Int) (a : Int) false ((vs.take a).map Vt.t) (a : Int) ((n + 1 : Nat) : Int) c0 c1 c2 c3 c4 y (l.map Row.t) vs[a].v vs[a].h vs[a].bz vs[a].blk vs[a].who vs[a].tz vs[a].tag) R := fun e1 e2 => by
      rw [e1, e2] at i2
      exact i2
    refine ev_step ?_
    simp only [laws_FnTwice.l3, laws_FnTwice.l3b, List.length_map, Int.toNat_natCast, vt_at hlt2, hg, Vt.c0, Vt.c1, Vt.c2, Vt.c2z, Vt.c3, Vt.c4, Vt.c4z, succ_nat n (by omega)]
    refine ev_pos (by omega) (ev_pos (by omega) (ev_pos (by omega) (ev_ite (fun q0 => ?_) (fun q0 => ?_))))
    · have q0 : f = true := q0
      rw [q0, Bool.true_or] at i2
      exact i2
    have q0 : f = false := by simpa using q0
    refine ev_ite (fun q1 => ev_ite (fun q2 => ev_ite (fun q3 => Ev.bind (impl_SameBytes.ev _ _ _ _) (ev_ite (fun q4 => Ev.bind (impl_VoteGood.ev _ _ hl _ _ _ _ hb.1 hb.2 _ _ _) (ev_ite (fun q5 => Ev.bind (impl_VoteGood.ev _ _ hl _ _ _ _ hc.1 hc.2 _ _ _) ?_) (fun q5 => no q0 ?_))) (fun q4 => no q0 ?_))) (fun q3 => no q0 ?_)) (fun q2 => no q0 ?_)) (fun q1 => no q0 ?_)
    · have q5 : vtGood l vs[a] = true := q5
      have q4 : sameB vs[a].blk vs[n].blk = false := by simpa using q4
      have et : hit l w vs[a] vs[n] = vtGood l vs[n] := by
        unfold hit
        rw [decide_eq_true q1, decide_eq_true q2, decide_eq_true q3, q4, q5]
        simp
      rw [et, q0, Bool.false_or] at i2
      exact i2
    · have q5 : vtGood l vs[a] = false := by unfold vtGood; simpa using q5
      unfold hit
      rw [q5]
      simp
    · have q4 : sameB vs[a].blk vs[n].blk = true := by simpa using q4
      unfold hit
      rw [q4]
      simp
    · unfold hit
      rw [decide_eq_false q3]
      simp
    · unfold hit
      rw [decide_eq_false q2]
      simp
    · unfold hit
      rw [decide_eq_false q1]
      simp
theorem laws_FnTwice.ev1 (y : Bool) (l : List Row) (hl : Rows l) (vs : List Vt) (hv : NiceV vs) (bz : Bool) (B : List Int) (hB : niceB B) (hbit : ∀ j, bitAt B j = decide (j ∈ own2 l vs vs.length)) (c0 c1 c2 c3 c4 : Int) (w : Nat) (hw : w ≤ 1048576) {R : Bool}
    (nx : Ev (fun k => laws_FnTwice.l0 k false (vs.map Vt.t) bz B ((w + 1 : Nat) : Int) c0 c1 c2 c3 c4 y (l.map Row.t)) R) :
    ∀ (d a : Nat), a + d = vs.length → Ev (fun k => laws_FnTwice.l1 k false (vs.map Vt.t) bz B (w : Int) (two l vs w a) false (vs.map Vt.t) (vs.length : Int) (a : Int) c0 c1 c2 c3 c4 y (l.map Row.t)) R := by
  have hN := hv.1
  intro d
  induction d with
  | zero =>
    intro a ha
    have ha : a = vs.length := by omega
    subst ha
    refine ev_step ?_
    simp only [laws_FnTwice.l1, laws_FnTwice.l1b, succ_nat w (by omega)]
    refine ev_neg (by omega) (Ev.bind (impl_BitsHas.ev _ _ hB w (by omega)) (ev_neg ?_ nx))
    rw [hbit, two_own]
    simp
  | succ d ih =>
    intro a ha
    have hlt : a < vs.length := by omega
    have K := laws_FnTwice.ev3 y l hl vs hv bz B c0 c1 c2 c3 c4 w a hlt (ih (a + 1) (by omega)) a 0 (by omega)
    rw [List.take_zero, List.any_nil, Bool.or_false] at K
    have et : ((vs.map Vt.t).take a).drop 0 = (vs.take a).map Vt.t := by rw [List.drop_zero, List.map_take]
    have el : ((vs.take a).map Vt.t).length = a := by rw [List.length_map, List.length_take]; omega
    refine ev_step ?_
    simp only [laws_FnTwice.l1, laws_FnTwice.l1b, List.length_map, Int.toNat_natCast, vt_at hlt, Vt.c0, Vt.c1, Vt.c2, Vt.c2z, Vt.c3, Vt.c4, Vt.c4z]
    rw [et, el]
    exact ev_pos (by omega) (ev_pos (by omega) (ev_pos (by omega) (ev_pos (by omega) (ev_pos (by omega) (ev_pos (by omega) K)))))
theorem laws_FnTwice.ev2 (vs : List Vt) (hN : vs.length ≤ 1048576) : Ev (fun k => laws_FnTwice.l2 k false (vs.map Vt.t) false (viewsV vs) 1) true := by
  have sp := puts_spec (vs.map fun x => x.v) [] List.Pairwise.nil
  have hs : (viewsV vs).Pairwise (· < ·) := sp.1
  have hlen := viewsV_len vs
  have hemp : (decide (((viewsV vs).length : Int) = 0) == decide (((vs.map Vt.t).length : Int) = 0)) = true := by
    rw [List.length_map]
    cases h : vs with
    | nil => simp [viewsV]
    | cons x t =>
      have hm : x.v ∈ viewsV vs := (sp.2 x.v).2 (.inl (by rw [h]; simp))
      rw [← h]
      have h1 : (viewsV vs).length ≠ 0 := fun e => by
        rw [List.eq_nil_of_length_eq_zero e] at hm
        cases hm
      have h2 : vs.length ≠ 0 := by rw [h]; simp
      rw [decide_eq_false (by omega), decide_eq_false (by omega)]
      rfl
  generalize viewsV vs = u at *
  have key : ∀ (d n : Nat), 1 ≤ n → (n + d = u.length ∨ (u.length ≤ n ∧ d = 0)) → Ev (fun k => laws_FnTwice.l2 k false (vs.map Vt.t) false u (n : Int)) true := by
    intro d
    induction d with
    | zero =>
      intro n h1 hn
      refine ev_step ?_
      simp only [laws_FnTwice.l2, laws_FnTwice.l2b]
      exact ev_neg (by omega) (ev_some hemp)
    | succ d ih =>
      intro n h1 hn
      have hlt : n < u.length := by omega
      have hlt1 : n - 1 < u.length := by omega
      have e1 : wrap64 ((n : Int) - 1) = ((n - 1 : Nat) : Int) := by rw [w64 (by omega) (by omega)]; omega
      have lt := List.pairwise_iff_getElem.1 hs (n - 1) n hlt1 hlt (by omega)
      refine ev_step ?_
      simp only [laws_FnTwice.l2, laws_FnTwice.l2b, e1, succ_nat n (by omega), rdI_nat hlt, rdI_nat hlt1]
      exact ev_pos (by omega) (ev_pos (by omega) (ev_pos (by omega) (ev_pos (by omega) (ev_pos (by omega) (ev_neg (by omega) (ih (n + 1) (by omega) (by omega)))))))
  by_cases q : u.length ≤ 1
  · exact key 0 1 (by omega) (.inr ⟨q, rfl⟩)
  · exact key (u.length - 1) 1 (by omega) (.inl (by omega))
theorem laws_FnTwice.top (x0 : By) (g0 : x0.good) : Ev (fun k => laws_FnTwice.f k x0.z x0.l) true := by
  refine ev_step ?_
  simp only [laws_FnTwice.f, laws_FnTwice.b]
  refine ev_ite (fun _ => ev_some rfl) (fun c => ?_)
  have hl : x0.l.length ≤ 1048576 := by omega
  obtain ⟨n, tx, txs, hd, y, rows, vs, eT, hn, h1, h2, h3, hr, dr, lv, dv⟩ := spec_MakeVotes.ex x0.z x0.l hl
  have TT := drawn_ok dr (by omega) (by omega)
  have R := drawn_rows dr (by omega)
  have nv : NiceV vs := ⟨by omega, fun x hx => ((drawn_full lv dv).2 x hx).1⟩
  have I := impl_Twice.ev y rows R false vs nv
  have tv : twiceV rows vs = (false, bitsOf rows.length (own2 rows vs vs.length)) := by unfold twiceV; rw [if_pos TT]
  rw [tv] at I
  have sp := bitsOf_spec (by omega) (by omega) (own2_lt (l := rows) (vs := vs))
  generalize bitsOf rows.length (own2 rows vs vs.length) = B at *
  refine Ev.bind eT (Ev.bind I ?_)
  have V := impl_Views.ev false vs (by omega)
  have L2 := laws_FnTwice.ev2 vs (by omega)
  have key : ∀ (d w : Nat), w + d = n → Ev (fun k => laws_FnTwice.l0 k false (vs.map Vt.t) false B (w : Int) (n : Int) tx txs 4000 hd y (rows.map Row.t)) true := by
    intro d
    induction d with
    | zero =>
      intro w hw
      refine ev_step ?_
      simp only [laws_FnTwice.l0, laws_FnTwice.l0b]
      exact ev_neg (by omega) (Ev.bind V L2)
    | succ d ih =>
      intro w hw
      have K := laws_FnTwice.ev1 y rows R vs nv false B sp.1 sp.2.2.2 (n : Int) tx txs 4000 hd w (by omega) (ih (w + 1) (by omega)) vs.length 0 (by omega)
      refine ev_step ?_
      simp only [laws_FnTwice.l0, laws_FnTwice.l0b, List.length_map]
      exact ev_pos (by omega) K
  exact key n 0 (by omega)
end Go.Proofs.YthocpcfjfgnkgaaG
