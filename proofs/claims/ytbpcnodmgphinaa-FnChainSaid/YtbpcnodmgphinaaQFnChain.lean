/- What the printed forms answer, over numbers and lists alone. Each lemma names its conditions. -/
import Derived.Test.YtbpcnodmgphinaaGFnChaine
namespace Go.Proofs.YtbpcnodmgphinaaG
open Go Go.Proofs.YtbpcnodmgphinaaRv Go.RowKit
set_option linter.unusedVariables false
set_option linter.unusedSimpArgs false


theorem impl_within.ev (a b c : Int) : Ev (fun k => impl_within.f k a b c) (decide (b ≤ a ∧ a ≤ c)) := by
  refine ev_step ?_
  simp only [impl_within.f, impl_within.b]
  exact ev_ite (fun h => ev_some (by simp [h])) (fun h => ev_some (by simp [h]))
theorem spec_l01In.ev (a b c : Int) : Ev (fun k => spec_l01In.f k a b c) (decide (b ≤ a ∧ a ≤ c)) := by
  refine ev_step ?_
  simp only [spec_l01In.f, spec_l01In.b]
  exact ev_ite (fun h => ev_some (by simp [show b ≤ a from h])) (fun h => ev_some (by simp [show ¬ b ≤ a from h]))
theorem impl_isNum.ev (a : Int) : Ev (fun k => impl_isNum.f k a) (isNum a) := by
  refine ev_step ?_
  simp only [impl_isNum.f, impl_isNum.b]
  exact Ev.bind (impl_within.ev _ _ _) (ev_some rfl)
theorem spec_l01Num.ev (a : Int) : Ev (fun k => spec_l01Num.f k a) (isNum a) := by
  refine ev_step ?_
  simp only [spec_l01Num.f, spec_l01Num.b]
  exact Ev.bind (spec_l01In.ev _ _ _) (ev_some rfl)
theorem impl_copyBytes.ev (z : Bool) (l : List Int) (h : l.length ≤ 1073741824) : Ev (fun k => impl_copyBytes.f k z l) (false, l) := by
  refine ev_step ?_
  simp only [impl_copyBytes.f, impl_copyBytes.b]
  exact ev_pos (by omega) (ev_some (by simp))
theorem spec_l01Copy.ev (z : Bool) (l : List Int) (h : l.length ≤ 1073741824) : Ev (fun k => spec_l01Copy.f k z l) (false, l) := by
  refine ev_step ?_
  simp only [spec_l01Copy.f, spec_l01Copy.b]
  exact ev_pos (by omega) (ev_some (by simp))



def putV (b : List Int) (n : Int) : Bool × List Int × Bool := if isNum n = true then (false, b ++ vint 8 n, true) else (true, [], false)
theorem impl_PutVar.ev0 : ∀ (m : Nat) (n : Int) (z : Bool) (acc : List Int), 0 ≤ n → n < 128 ^ (m + 1) → n ≤ 1152921504606846975 → acc.length + m ≤ 1073741840 → Ev (fun k => impl_PutVar.l0 k n z acc) (false, acc ++ vint m n, true)
  | 0, n, z, acc, h0, h1, h2, hl => by
    simp at h1
    refine ev_step ?_
    simp only [impl_PutVar.l0, impl_PutVar.l0b]
    refine ev_neg (by omega) (ev_pos (by omega) (ev_some ?_))
    rw [Int.emod_eq_of_lt h0 (by omega)]
    rfl
  | m + 1, n, z, acc, h0, h1, h2, hl => by
    refine ev_step ?_
    simp only [impl_PutVar.l0, impl_PutVar.l0b]
    unfold vint
    by_cases c : n < 128
    · rw [if_pos c]
      refine ev_neg (by omega) (ev_pos (by omega) (ev_some ?_))
      rw [Int.emod_eq_of_lt h0 (by omega)]
    · rw [if_neg c, Int.tdiv_eq_ediv_of_nonneg h0, Int.tmod_eq_emod_of_nonneg h0, w64 (n := n / 128) (by omega) (by omega), w64 (by omega) (by omega)]
      refine ev_pos (by omega) (ev_pos (by omega) (ev_to (impl_PutVar.ev0 m (n / 128) _ _ (by omega) ?_ (by omega) (by simp; omega)) ?_))
      · have e : (128 : Int) ^ (m + 1 + 1) = 128 ^ (m + 1) * 128 := Int.pow_succ 128 (m + 1)
        rw [e] at h1
        generalize (128 : Int) ^ (m + 1) = q at *
        omega
      · rw [List.append_assoc, List.singleton_append]
        congr 4
        omega
theorem impl_PutVar.ev (z : Bool) (b : List Int) (n : Int) (hb : b.length ≤ 1073741824) : Ev (fun k => impl_PutVar.f k z b n) (putV b n) := by
  refine ev_step ?_
  simp only [impl_PutVar.f, impl_PutVar.b]
  unfold putV
  refine Ev.bind (impl_isNum.ev n) (ev_ite (fun c => ev_some (by rw [if_neg c])) (fun c => ?_))
  have c : isNum n = true := by simpa using c
  obtain ⟨h0, h1⟩ := num_pow c
  rw [if_pos c]
  exact Ev.bind (impl_copyBytes.ev z b hb) (impl_PutVar.ev0 8 n _ b h0 h1 (isNum_iff.1 c).2 (by omega))
theorem spec_PutVar.ev0 : ∀ (m : Nat) (n : Int) (z : Bool) (acc : List Int), 0 ≤ n → n < 128 ^ (m + 1) → n ≤ 1152921504606846975 → acc.length + m ≤ 1073741840 → Ev (fun k => spec_PutVar.l0 k n z acc) (false, acc ++ vint m n, true)
  | 0, n, z, acc, h0, h1, h2, hl => by
    simp at h1
    refine ev_step ?_
    simp only [spec_PutVar.l0, spec_PutVar.l0b]
    refine ev_neg (by omega) (ev_pos (by omega) (ev_some ?_))
    rw [Int.emod_eq_of_lt h0 (by omega)]
    rfl
  | m + 1, n, z, acc, h0, h1, h2, hl => by
    refine ev_step ?_
    simp only [spec_PutVar.l0, spec_PutVar.l0b]
    unfold vint
    by_cases c : n < 128
    · rw [if_pos c]
      refine ev_neg (by omega) (ev_pos (by omega) (ev_some ?_))
      rw [Int.emod_eq_of_lt h0 (by omega)]
    · rw [if_neg c, Int.tdiv_eq_ediv_of_nonneg h0, Int.tmod_eq_emod_of_nonneg h0, w64 (n := n / 128) (by omega) (by omega), w64 (by omega) (by omega)]
      refine ev_pos (by omega) (ev_pos (by omega) (ev_to (spec_PutVar.ev0 m (n / 128) _ _ (by omega) ?_ (by omega) (by simp; omega)) ?_))
      · have e : (128 : Int) ^ (m + 1 + 1) = 128 ^ (m + 1) * 128 := Int.pow_succ 128 (m + 1)
        rw [e] at h1
        generalize (128 : Int) ^ (m + 1) = q at *
        omega
      · rw [List.append_assoc, List.singleton_append]
        congr 4
        omega
theorem spec_PutVar.ev (z : Bool) (b : List Int) (n : Int) (hb : b.length ≤ 1073741824) : Ev (fun k => spec_PutVar.f k z b n) (putV b n) := by
  refine ev_step ?_
  simp only [spec_PutVar.f, spec_PutVar.b]
  unfold putV
  refine Ev.bind (spec_l01Num.ev n) (ev_ite (fun c => ev_some (by rw [if_neg c])) (fun c => ?_))
  have c : isNum n = true := by simpa using c
  obtain ⟨h0, h1⟩ := num_pow c
  rw [if_pos c]
  exact Ev.bind (spec_l01Copy.ev z b hb) (spec_PutVar.ev0 8 n _ b h0 h1 (isNum_iff.1 c).2 (by omega))
theorem spec_l11Num.ev (z : Bool) (b : List Int) (n : Int) (hb : b.length ≤ 1073741824) : Ev (fun k => spec_l11Num.f k z b n) ((putV b n).1, (putV b n).2.1) := by
  refine ev_step ?_
  simp only [spec_l11Num.f, spec_l11Num.b]
  exact Ev.bind (spec_PutVar.ev z b n hb) (ev_some rfl)

def numsV (acc : List Int) (ns : List Int) : Bool × List Int := if ∀ n ∈ ns, isNum n = true then (false, acc ++ ns.flatMap (vint 8)) else (true, [])
theorem impl_numbers.ev0 (zn : Bool) (ns : List Int) (hn : ns.length ≤ 4) : ∀ (d i : Nat) (acc : List Int), i + d = ns.length → acc.length ≤ 100 + 10 * i → Ev (fun k => impl_numbers.l0 k false acc zn ns (ns.length : Int) (i : Int)) (numsV acc (ns.drop i))
  | 0, i, acc, hi, ha => by
    refine ev_step ?_
    simp only [impl_numbers.l0, impl_numbers.l0b]
    refine ev_neg (by omega) (ev_some ?_)
    rw [List.drop_of_length_le (by omega)]
    simp [numsV]
  | d + 1, i, acc, hi, ha => by
    have hlt : i < ns.length := by omega
    refine ev_step ?_
    simp only [impl_numbers.l0, impl_numbers.l0b]
    refine ev_pos (by omega) (ev_pos (by omega) (ev_pos (by omega) ?_))
    have e0 : rdI ns (i : Int) = ns[i] := by simp [rdI, hlt]
    rw [e0, List.drop_eq_getElem_cons hlt]
    refine Ev.bind (impl_PutVar.ev false acc _ (by omega)) ?_
    rw [w64s (by omega)]
    have := vint_length 8 (ns[i])
    unfold putV
    by_cases c : isNum (ns[i]) = true
    · rw [if_pos c]
      have ih := impl_numbers.ev0 zn ns hn d (i + 1) (acc ++ vint 8 ns[i]) (by omega) (by simp; omega)
      refine ev_neg (by simp) (ev_to ih ?_)
      generalize ns.drop (i + 1) = t
      generalize ns[i] = x at *
      simp [numsV, c]
    · rw [if_neg c]
      refine ev_pos (by simp) (ev_some ?_)
      generalize ns.drop (i + 1) = t
      generalize ns[i] = x at *
      simp [numsV, c]
theorem impl_numbers.ev (c : Int) (zn : Bool) (ns : List Int) (hn : ns.length ≤ 4) : Ev (fun k => impl_numbers.f k c zn ns) (numsV [c] ns) := by
  refine ev_step ?_
  simp only [impl_numbers.f, impl_numbers.b]
  exact impl_numbers.ev0 zn ns hn ns.length 0 [c] (by omega) (by simp)
structure Row where
  f0 : Int
  z : Bool
  f1 : List Int
instance : Inhabited Row := ⟨⟨0, false, []⟩⟩
def Row.t (r : Row) : T := .agg [.int .i64 r.f0, .nums 5 .u8 r.z r.f1]
theorem row_at {l : List Row} {i : Nat} (h : i < l.length) : (l.map Row.t).getD i .bad = (l[i]).t := by simp [List.getD_eq_getElem?_getD, h]
theorem Row.c0 (r : Row) : (r.t.cells.getD 0 .bad).toInt = r.f0 := rfl
theorem Row.c1z (r : Row) : (r.t.cells.getD 1 .bad).isNil = r.z := rfl
theorem Row.c1 (r : Row) : (r.t.cells.getD 1 .bad).toNums = r.f1 := rfl

def rowOk (r : Row) : Bool := decide (1 ≤ r.f0 ∧ r.f0 ≤ 1099511627776) && decide (1 ≤ r.f1.length ∧ r.f1.length ≤ 64)
def tabOk (l : List Row) : Bool := l.all rowOk && decide (1 ≤ l.length ∧ l.length ≤ 10)
theorem tabOk_iff {l : List Row} : tabOk l = true ↔ (∀ r ∈ l, (1 ≤ r.f0 ∧ r.f0 ≤ 1099511627776) ∧ 1 ≤ r.f1.length ∧ r.f1.length ≤ 64) ∧ 1 ≤ l.length ∧ l.length ≤ 10 := by
  simp [tabOk, rowOk]
theorem impl_TableOk.ev0 (z : Bool) (l : List Row) (h : l.length ≤ 1048576) : ∀ (d n : Nat), n + d = l.length → Ev (fun k => impl_TableOk.l0 k z (l.map Row.t) (l.length : Int) (n : Int) z (l.map Row.t)) ((l.drop n).all rowOk && decide (1 ≤ l.length ∧ l.length ≤ 10))
  | 0, n, hn => by
    refine ev_step ?_
    simp only [impl_TableOk.l0, impl_TableOk.l0b]
    refine ev_neg (by omega) (Ev.bind (impl_within.ev _ _ _) (ev_some ?_))
    rw [List.drop_of_length_le (by omega), List.length_map]
    have e : (1 ≤ (l.length : Int) ∧ (l.length : Int) ≤ 10) ↔ (1 ≤ l.length ∧ l.length ≤ 10) := by omega
    simp [e]
  | d + 1, n, hn => by
    have hlt : n < l.length := by omega
    refine ev_step ?_
    simp only [impl_TableOk.l0, impl_TableOk.l0b, Int.toNat_natCast, row_at hlt, Row.c0, Row.c1, List.length_map]
    refine ev_pos (by omega) (ev_pos (by omega) (ev_pos (by omega) (Ev.bind (impl_within.ev _ _ _) ?_)))
    rw [List.drop_eq_getElem_cons hlt, List.all_cons]
    refine ev_ite (fun c1 => ev_some ?_) (fun c1 => Ev.bind (impl_within.ev _ _ _) (ev_ite (fun c2 => ev_some ?_) (fun c2 => ?_)))
    · simp at c1
      have : ¬ (1 ≤ (l[n]).f0 ∧ (l[n]).f0 ≤ 1099511627776) := by omega
      simp [rowOk, this]
    · simp at c2
      have : ¬ (1 ≤ (l[n]).f1.length ∧ (l[n]).f1.length ≤ 64) := by omega
      simp [rowOk, this]
    · rw [w64s (by omega)]
      have ih := impl_TableOk.ev0 z l h d (n + 1) (by omega)
      refine ev_to ih ?_
      simp at c1 c2
      have c3 : 1 ≤ (l[n]).f1.length ∧ (l[n]).f1.length ≤ 64 := by omega
      simp [rowOk, c1, c3]
theorem impl_TableOk.ev (z : Bool) (l : List Row) (h : l.length ≤ 1048576) : Ev (fun k => impl_TableOk.f k z (l.map Row.t)) (tabOk l) := by
  refine ev_step ?_
  simp only [impl_TableOk.f, impl_TableOk.b, List.length_map]
  exact ev_to (impl_TableOk.ev0 z l h l.length 0 (by omega)) (by simp [tabOk])
theorem spec_l02Signers.ev (a : Int) : Ev (fun k => spec_l02Signers.f k a) (decide (1 ≤ a ∧ a ≤ 10)) := by
  refine ev_step ?_
  simp only [spec_l02Signers.f, spec_l02Signers.b]
  exact Ev.bind (spec_l01In.ev _ _ _) (ev_some rfl)
theorem spec_TableOk.ev0 (z : Bool) (l : List Row) (h : l.length ≤ 1048576) : ∀ (d n : Nat), n + d = l.length → Ev (fun k => spec_TableOk.l0 k z (l.map Row.t) (l.length : Int) (n : Int) z (l.map Row.t)) ((l.drop n).all rowOk && decide (1 ≤ l.length ∧ l.length ≤ 10))
  | 0, n, hn => by
    refine ev_step ?_
    simp only [spec_TableOk.l0, spec_TableOk.l0b]
    refine ev_neg (by omega) (Ev.bind (spec_l02Signers.ev _) (ev_some ?_))
    rw [List.drop_of_length_le (by omega), List.length_map]
    have e : (1 ≤ (l.length : Int) ∧ (l.length : Int) ≤ 10) ↔ (1 ≤ l.length ∧ l.length ≤ 10) := by omega
    simp [e]
  | d + 1, n, hn => by
    have hlt : n < l.length := by omega
    refine ev_step ?_
    simp only [spec_TableOk.l0, spec_TableOk.l0b, Int.toNat_natCast, row_at hlt, Row.c0, Row.c1, List.length_map]
    refine ev_pos (by omega) (ev_pos (by omega) (ev_pos (by omega) (Ev.bind (spec_l01In.ev _ _ _) ?_)))
    rw [List.drop_eq_getElem_cons hlt, List.all_cons]
    refine ev_ite (fun c1 => ev_some ?_) (fun c1 => Ev.bind (spec_l01In.ev _ _ _) (ev_ite (fun c2 => ev_some ?_) (fun c2 => ?_)))
    · simp at c1
      have : ¬ (1 ≤ (l[n]).f0 ∧ (l[n]).f0 ≤ 1099511627776) := by omega
      simp [rowOk, this]
    · simp at c2
      have : ¬ (1 ≤ (l[n]).f1.length ∧ (l[n]).f1.length ≤ 64) := by omega
      simp [rowOk, this]
    · rw [w64s (by omega)]
      have ih := spec_TableOk.ev0 z l h d (n + 1) (by omega)
      refine ev_to ih ?_
      simp at c1 c2
      have c3 : 1 ≤ (l[n]).f1.length ∧ (l[n]).f1.length ≤ 64 := by omega
      simp [rowOk, c1, c3]
theorem spec_TableOk.ev (z : Bool) (l : List Row) (h : l.length ≤ 1048576) : Ev (fun k => spec_TableOk.f k z (l.map Row.t)) (tabOk l) := by
  refine ev_step ?_
  simp only [spec_TableOk.f, spec_TableOk.b, List.length_map]
  exact ev_to (spec_TableOk.ev0 z l h l.length 0 (by omega)) (by simp [tabOk])
theorem impl_SameBytes.ev (y z : Bool) (a b : List Int) : Ev (fun k => impl_SameBytes.f k y a z b) (sameB a b) := by
  refine ev_step ?_
  simp only [impl_SameBytes.f, impl_SameBytes.b]
  exact ev_some rfl
theorem spec_SameBytes.ev (y z : Bool) (a b : List Int) : Ev (fun k => spec_SameBytes.f k y a z b) (sameB a b) := by
  refine ev_step ?_
  simp only [spec_SameBytes.f, spec_SameBytes.b]
  exact ev_some rfl
end Go.Proofs.YtbpcnodmgphinaaG
namespace Go.Proofs.YtbpcnodmgphinaaG
open Go Go.Proofs.YtbpcnodmgphinaaRv Go.RowKit
set_option linter.unusedVariables false
set_option linter.unusedSimpArgs false


def isW (x : Int) : Prop := 0 ≤ x ∧ x ≤ 4294967295
def turn (x n : Int) : Int := Go.bits .and .i64 (Go.bits .or .i64 (shrI .i64 x n) (shlI .i64 x (wrap64 ((32 : Int) - n)))) 4294967295
theorem wraps_i64 (n : Int) (h₀ : 0 ≤ n) (h₁ : n < 2 ^ 63) : IntKind.i64.wrap n = n := by rw [IntKind.wrap_i64]; omega
theorem and_mask (y : Int) : isW (Go.bits .and .i64 y 4294967295) := by
  have h : ∀ n : Nat, n ≤ 4294967295 → isW (IntKind.i64.wrap (n : Int)) := fun n hn => by
    rw [wraps_i64 _ (by omega) (by omega)]
    unfold isW
    omega
  simp only [Go.bits]
  refine h _ ?_
  rw [BitVec.toNat_and]
  refine Nat.le_trans Nat.and_le_right ?_
  decide
theorem bits_w {a b : Nat} (ha : a < 2 ^ 32) (hb : b < 2 ^ 32) : Go.bits .and .i64 (a : Int) b = ((a &&& b : Nat) : Int) ∧ Go.bits .or .i64 (a : Int) b = ((a ||| b : Nat) : Int) ∧ Go.bits .xor .i64 (a : Int) b = ((a ^^^ b : Nat) : Int) := by
  obtain ⟨h1, h2⟩ := bits_nat .i64 63 (by decide) wraps_i64 a b (by omega) (by omega)
  refine ⟨h1, h2, ?_⟩
  have ha' : a % 2 ^ 64 = a := Nat.mod_eq_of_lt (by omega)
  have hb' : b % 2 ^ 64 = b := Nat.mod_eq_of_lt (by omega)
  have hx : a ^^^ b < 2 ^ 32 := Nat.xor_lt_two_pow ha hb
  simp only [Go.bits, BitVec.ofInt_natCast, BitVec.toNat_xor, BitVec.toNat_ofNat]
  show IntKind.i64.wrap (((a % 2 ^ 64) ^^^ (b % 2 ^ 64) : Nat) : Int) = _
  rw [ha', hb']
  exact wraps_i64 _ (by omega) (by omega)
theorem W_nat {x : Int} (h : isW x) : ∃ n : Nat, x = (n : Int) ∧ n < 2 ^ 32 := by
  obtain ⟨n, rfl⟩ := Int.eq_ofNat_of_zero_le h.1
  refine ⟨n, rfl, ?_⟩
  have := h.2
  omega
theorem nat_W {n : Nat} (h : n < 2 ^ 32) : isW (n : Int) := by unfold isW; omega
theorem ch_eq {e f g : Int} (he : isW e) (hf : isW f) (hg : isW g) : Go.bits .or .i64 (Go.bits .and .i64 e f) (Go.bits .and .i64 (Go.bits .xor .i64 e 4294967295) g) = Go.bits .xor .i64 (Go.bits .and .i64 e f) (Go.bits .and .i64 (Go.bits .xor .i64 4294967295 e) g) := by
  obtain ⟨a, rfl, ha⟩ := W_nat he
  obtain ⟨b, rfl, hb⟩ := W_nat hf
  obtain ⟨c, rfl, hc⟩ := W_nat hg
  have hm : (4294967295 : Nat) < 2 ^ 32 := by decide
  have e1 : (4294967295 : Int) = ((4294967295 : Nat) : Int) := rfl
  have h1 : a &&& b < 2 ^ 32 := Nat.and_lt_two_pow _ hb
  have h2 : a ^^^ 4294967295 < 2 ^ 32 := Nat.xor_lt_two_pow ha hm
  have h3 : 4294967295 ^^^ a < 2 ^ 32 := Nat.xor_lt_two_pow hm ha
  rw [e1, (bits_w ha hb).1, (bits_w ha hm).2.2, (bits_w hm ha).2.2, (bits_w h2 hc).1, (bits_w h3 hc).1, (bits_w h1 (Nat.and_lt_two_pow _ hc)).2.1, (bits_w h1 (Nat.and_lt_two_pow _ hc)).2.2]
  congr 1
  apply Nat.eq_of_testBit_eq
  intro i
  simp only [Nat.testBit_or, Nat.testBit_and, Nat.testBit_xor]
  by_cases hi : i < 32
  · have : Nat.testBit 4294967295 i = true := by
      have := Nat.testBit_two_pow_sub_one 32 i
      simpa [hi] using this
    rw [this]
    cases a.testBit i <;> cases b.testBit i <;> cases c.testBit i <;> rfl
  · have z : a.testBit i = false := Nat.testBit_lt_two_pow (Nat.lt_of_lt_of_le ha (Nat.pow_le_pow_right (by decide) (by omega)))
    have y : c.testBit i = false := Nat.testBit_lt_two_pow (Nat.lt_of_lt_of_le hc (Nat.pow_le_pow_right (by decide) (by omega)))
    rw [z, y]
    simp
theorem maj_eq {e f g : Int} (he : isW e) (hf : isW f) (hg : isW g) : Go.bits .or .i64 (Go.bits .or .i64 (Go.bits .and .i64 e f) (Go.bits .and .i64 e g)) (Go.bits .and .i64 f g) = Go.bits .xor .i64 (Go.bits .xor .i64 (Go.bits .and .i64 e f) (Go.bits .and .i64 e g)) (Go.bits .and .i64 f g) := by
  obtain ⟨a, rfl, ha⟩ := W_nat he
  obtain ⟨b, rfl, hb⟩ := W_nat hf
  obtain ⟨c, rfl, hc⟩ := W_nat hg
  have h1 : a &&& b < 2 ^ 32 := Nat.and_lt_two_pow _ hb
  have h2 : a &&& c < 2 ^ 32 := Nat.and_lt_two_pow _ hc
  have h3 : b &&& c < 2 ^ 32 := Nat.and_lt_two_pow _ hc
  rw [(bits_w ha hb).1, (bits_w ha hc).1, (bits_w hb hc).1, (bits_w h1 h2).2.1, (bits_w h1 h2).2.2, (bits_w (Nat.or_lt_two_pow h1 h2) h3).2.1, (bits_w (Nat.xor_lt_two_pow h1 h2) h3).2.2]
  congr 1
  apply Nat.eq_of_testBit_eq
  intro i
  simp only [Nat.testBit_or, Nat.testBit_and, Nat.testBit_xor]
  cases a.testBit i <;> cases b.testBit i <;> cases c.testBit i <;> rfl

theorem impl_isWord.ev (x : Int) : Ev (fun k => impl_isWord.f k x) (decide (0 ≤ x ∧ x ≤ 4294967295)) := by
  refine ev_step ?_
  simp only [impl_isWord.f, impl_isWord.b]
  exact Ev.bind (impl_within.ev _ _ _) (ev_some rfl)
theorem spec_l04Word.ev (x : Int) : Ev (fun k => spec_l04Word.f k x) (decide (0 ≤ x ∧ x ≤ 4294967295)) := by
  refine ev_step ?_
  simp only [spec_l04Word.f, spec_l04Word.b]
  exact Ev.bind (spec_l01In.ev _ _ _) (ev_some rfl)
theorem impl_TurnRight.ev (x n : Int) (hx : isW x) (h0 : 0 ≤ n) (h1 : n ≤ 31) : Ev (fun k => impl_TurnRight.f k x n) (turn x n) := by
  have := hx.1
  have := hx.2
  refine ev_step ?_
  simp only [impl_TurnRight.f, impl_TurnRight.b]
  refine Ev.bind (impl_isWord.ev x) (ev_neg (by simp; omega) (Ev.bind (impl_within.ev _ _ _) (ev_neg (by simp; omega) (ev_pos h0 (ev_pos (by unfold wrap64; omega) (ev_some rfl))))))
theorem spec_l04Turn.ev (x n : Int) (h0 : 0 ≤ n) (h1 : n ≤ 31) : Ev (fun k => spec_l04Turn.f k x n) (turn x n) := by
  refine ev_step ?_
  simp only [spec_l04Turn.f, spec_l04Turn.b]
  exact ev_pos h0 (ev_pos (by unfold wrap64; omega) (ev_some rfl))


theorem rdI_nat {l : List Int} {n : Nat} (h : n < l.length) : rdI l (n : Int) = l[n] := by simp [rdI, h]
def Ws (l : List Int) : Prop := ∀ x ∈ l, isW x
theorem Ws_rd {l : List Int} (h : Ws l) (i : Int) : isW (rdI l i) := by
  unfold rdI
  by_cases hi : i.toNat < l.length
  · rw [List.getD_eq_getElem?_getD, List.getElem?_eq_getElem hi]
    exact h _ (List.getElem_mem hi)
  · rw [List.getD_eq_getElem?_getD, List.getElem?_eq_none (by omega)]
    show isW 0
    unfold isW
    omega

def wb (b : List Int) (i : Nat) : Int := Go.bits .or .i64 (Go.bits .or .i64 (Go.bits .or .i64 (shlI .i64 (wrap64 (rdI b ((4 * i : Nat) : Int))) 24) (shlI .i64 (wrap64 (rdI b ((4 * i + 1 : Nat) : Int))) 16)) (shlI .i64 (wrap64 (rdI b ((4 * i + 2 : Nat) : Int))) 8)) (wrap64 (rdI b ((4 * i + 3 : Nat) : Int)))

def sc (w : List Int) : Int :=
  let x := rdI w ((w.length - 15 : Nat) : Int)
  let y := rdI w ((w.length - 2 : Nat) : Int)
  Go.bits .and .i64 (wrap64 (wrap64 (wrap64 (rdI w ((w.length - 16 : Nat) : Int) + Go.bits .xor .i64 (Go.bits .xor .i64 (turn x 7) (turn x 18)) (shrI .i64 x 3)) + rdI w ((w.length - 7 : Nat) : Int)) + Go.bits .xor .i64 (Go.bits .xor .i64 (turn y 17) (turn y 19)) (shrI .i64 y 10))) 4294967295
def grow (w : List Int) : Nat → List Int
  | 0 => w
  | d + 1 => grow (w ++ [sc w]) d
def rnd (K W : List Int) (i : Nat) (v : List Int) : List Int :=
  let t := wrap64 (wrap64 (wrap64 (wrap64 (rdI v 7 + Go.bits .xor .i64 (Go.bits .xor .i64 (turn (rdI v 4) 6) (turn (rdI v 4) 11)) (turn (rdI v 4) 25)) + Go.bits .xor .i64 (Go.bits .and .i64 (rdI v 4) (rdI v 5)) (Go.bits .and .i64 (Go.bits .xor .i64 4294967295 (rdI v 4)) (rdI v 6))) + rdI K (i : Int)) + rdI W (i : Int))
  let u := wrap64 (Go.bits .xor .i64 (Go.bits .xor .i64 (turn (rdI v 0) 2) (turn (rdI v 0) 13)) (turn (rdI v 0) 22) + Go.bits .xor .i64 (Go.bits .xor .i64 (Go.bits .and .i64 (rdI v 0) (rdI v 1)) (Go.bits .and .i64 (rdI v 0) (rdI v 2))) (Go.bits .and .i64 (rdI v 1) (rdI v 2)))
  [Go.bits .and .i64 (wrap64 (t + u)) 4294967295, rdI v 0, rdI v 1, rdI v 2, Go.bits .and .i64 (wrap64 (rdI v 3 + t)) 4294967295, rdI v 4, rdI v 5, rdI v 6]
def rnds (K W : List Int) : Nat → Nat → List Int → List Int
  | 0, _, v => v
  | d + 1, i, v => rnds K W d (i + 1) (rnd K W i v)
def outs (h v : List Int) (n : Nat) : List Int := (List.range n).map fun (i : Nat) => Go.bits .and .i64 (wrap64 (rdI h (i : Int) + rdI v (i : Int))) 4294967295
def shaK : List Int := [1116352408, 1899447441, 3049323471, 3921009573, 961987163, 1508970993, 2453635748, 2870763221, 3624381080, 310598401, 607225278, 1426881987, 1925078388, 2162078206, 2614888103, 3248222580, 3835390401, 4022224774, 264347078, 604807628, 770255983, 1249150122, 1555081692, 1996064986, 2554220882, 2821834349, 2952996808, 3210313671, 3336571891, 3584528711, 113926993, 338241895, 666307205, 773529912, 1294757372, 1396182291, 1695183700, 1986661051, 2177026350, 2456956037, 2730485921, 2820302411, 3259730800, 3345764771, 3516065817, 3600352804, 4094571909, 275423344, 430227734, 506948616, 659060556, 883997877, 958139571, 1322822218, 1537002063, 1747873779, 1955562222, 2024104815, 2227730452, 2361852424, 2428436474, 2756734187, 3204031479, 3329325298]
def shaW (b : List Int) : List Int := grow ((List.range 16).map (wb b)) 48
def shaBlk (h b : List Int) : List Int := outs h (rnds shaK (shaW b) 64 0 h) 8
def bytesOk (b : List Int) : Prop := ∀ x ∈ b, 0 ≤ x ∧ x < 256

theorem grow_W : ∀ (d : Nat) (w : List Int), Ws w → Ws (grow w d)
  | 0, w, h => h
  | d + 1, w, h => grow_W d _ fun x hx => by
    rcases List.mem_append.1 hx with hx | hx
    · exact h x hx
    · rw [List.mem_singleton.1 hx]; exact and_mask _
theorem rnd_W (K W : List Int) (i : Nat) {v : List Int} (h : Ws v) : Ws (rnd K W i v) ∧ (rnd K W i v).length = 8 := by
  refine ⟨fun x hx => ?_, rfl⟩
  simp only [rnd, List.mem_cons, List.not_mem_nil, or_false] at hx
  rcases hx with rfl | rfl | rfl | rfl | rfl | rfl | rfl | rfl <;> first | exact and_mask _ | exact Ws_rd h _
theorem outs_W (h v : List Int) (n : Nat) : Ws (outs h v n) ∧ (outs h v n).length = n := by
  refine ⟨fun x hx => ?_, by simp [outs]⟩
  obtain ⟨i, _, rfl⟩ := List.mem_map.1 hx
  exact and_mask _
theorem byte_shl {x : Int} (h0 : 0 ≤ x) (h1 : x < 256) (s : Nat) (hs : s ≤ 24) : ∃ n : Nat, shlI .i64 (wrap64 x) (s : Int) = (n : Int) ∧ n < 2 ^ 32 := by
  obtain ⟨n, rfl⟩ := Int.eq_ofNat_of_zero_le h0
  rw [w64 (by omega) (by omega)]
  have hp : (2 : Nat) ^ s ≤ 2 ^ 24 := Nat.pow_le_pow_right (by decide) hs
  have hlt : n * 2 ^ s < 2 ^ 32 := by
    have : n * 2 ^ s ≤ 255 * 2 ^ 24 := Nat.mul_le_mul (by omega) hp
    omega
  refine ⟨n * 2 ^ s, ?_, hlt⟩
  unfold shlI
  have e : min ((s : Int)).toNat (IntKind.bits .i64) = s := by
    have : IntKind.bits .i64 = 64 := rfl
    rw [this, Int.toNat_natCast]
    omega
  have e2 : ((n : Int) * 2 ^ s) = ((n * 2 ^ s : Nat) : Int) := by push_cast; rfl
  rw [e, e2]
  exact wraps_i64 _ (by omega) (by omega)
theorem rd_byte {b : List Int} (h : bytesOk b) (i : Int) : 0 ≤ rdI b i ∧ rdI b i < 256 := by
  unfold rdI
  by_cases hi : i.toNat < b.length
  · rw [List.getD_eq_getElem?_getD, List.getElem?_eq_getElem hi]
    exact h _ (List.getElem_mem hi)
  · rw [List.getD_eq_getElem?_getD, List.getElem?_eq_none (by omega)]
    exact ⟨by simp, by simp⟩
theorem wb_W {b : List Int} (h : bytesOk b) (i : Nat) : isW (wb b i) := by
  unfold wb
  obtain ⟨n1, e1, l1⟩ := byte_shl (rd_byte h ((4 * i : Nat) : Int)).1 (rd_byte h _).2 24 (by omega)
  obtain ⟨n2, e2, l2⟩ := byte_shl (rd_byte h ((4 * i + 1 : Nat) : Int)).1 (rd_byte h _).2 16 (by omega)
  obtain ⟨n3, e3, l3⟩ := byte_shl (rd_byte h ((4 * i + 2 : Nat) : Int)).1 (rd_byte h _).2 8 (by omega)
  have h4 := rd_byte h ((4 * i + 3 : Nat) : Int)
  have e4 := w64 (n := rdI b ((4 * i + 3 : Nat) : Int)) (by omega) (by omega)
  rw [e4]
  obtain ⟨n4, e5⟩ := Int.eq_ofNat_of_zero_le h4.1
  have l4 : n4 < 2 ^ 32 := by omega
  have f1 : shlI .i64 (wrap64 (rdI b ((4 * i : Nat) : Int))) 24 = (n1 : Int) := e1
  have f2 : shlI .i64 (wrap64 (rdI b ((4 * i + 1 : Nat) : Int))) 16 = (n2 : Int) := e2
  have f3 : shlI .i64 (wrap64 (rdI b ((4 * i + 2 : Nat) : Int))) 8 = (n3 : Int) := e3
  rw [f1, f2, f3, e5, (bits_w l1 l2).2.1, (bits_w (Nat.or_lt_two_pow l1 l2) l3).2.1, (bits_w (Nat.or_lt_two_pow (Nat.or_lt_two_pow l1 l2) l3) l4).2.1]
  exact nat_W (Nat.or_lt_two_pow (Nat.or_lt_two_pow (Nat.or_lt_two_pow l1 l2) l3) l4)
end Go.Proofs.YtbpcnodmgphinaaG
namespace Go.Proofs.YtbpcnodmgphinaaG
open Go Go.Proofs.YtbpcnodmgphinaaRv Go.RowKit
set_option linter.unusedVariables false
set_option linter.unusedSimpArgs false

theorem rdI_app {l m : List Int} {n : Nat} (h : n < l.length) : rdI (l ++ m) (n : Int) = rdI l (n : Int) := by simp [rdI, List.getD_eq_getElem?_getD, List.getElem?_append_left h]
def pad (w : List Int) : List Int := w ++ List.replicate (64 - w.length) 0
theorem pad_rd {w : List Int} {n : Nat} (h : n < w.length) : rdI (pad w) (n : Int) = rdI w (n : Int) := rdI_app h
theorem pad_set {w : List Int} (h : w.length < 64) (x : Int) : (pad w).set w.length x = pad (w ++ [x]) := by
  unfold pad
  rw [List.set_append_right _ _ (Nat.le_refl _), Nat.sub_self, List.append_assoc]
  have : 64 - w.length = (64 - (w ++ [x]).length) + 1 := by simp; omega
  rw [this, List.replicate_succ]
  simp

theorem sc_def (w : List Int) : sc w = Go.bits .and .i64 (wrap64 (wrap64 (wrap64 (rdI w ((w.length - 16 : Nat) : Int) + Go.bits .xor .i64 (Go.bits .xor .i64 (turn (rdI w ((w.length - 15 : Nat) : Int)) 7) (turn (rdI w ((w.length - 15 : Nat) : Int)) 18)) (shrI .i64 (rdI w ((w.length - 15 : Nat) : Int)) 3)) + rdI w ((w.length - 7 : Nat) : Int)) + Go.bits .xor .i64 (Go.bits .xor .i64 (turn (rdI w ((w.length - 2 : Nat) : Int)) 17) (turn (rdI w ((w.length - 2 : Nat) : Int)) 19)) (shrI .i64 (rdI w ((w.length - 2 : Nat) : Int)) 10))) 4294967295 := rfl
section
variable (y0 y1 y2 : Bool) (h b : List Int)

theorem impl_rounds.ev : Ev (fun k => impl_rounds.f k) (false, shaK) := by
  refine ev_step ?_
  simp only [impl_rounds.f, impl_rounds.b]
  exact ev_some rfl
theorem spec_l04K.ev : Ev (fun k => spec_l04K.f k) (false, shaK) := by
  refine ev_step ?_
  simp only [spec_l04K.f, spec_l04K.b]
  exact ev_some rfl


theorem impl_ShaBlock.ev4 (v : List Int) (hh : h.length = 8) : ∀ (d i : Nat), i + d = 8 → Ev (fun k => impl_ShaBlock.l4 k y0 h (outs h v i) (i : Int) v) (false, outs h v 8)
  | 0, i, hi => by
    obtain rfl : i = 8 := by omega
    refine ev_step ?_
    simp only [impl_ShaBlock.l4, impl_ShaBlock.l4b]
    exact ev_neg (by omega) (ev_some rfl)
  | d + 1, i, hi => by
    refine ev_step ?_
    simp only [impl_ShaBlock.l4, impl_ShaBlock.l4b]
    have hl := (outs_W h v i).2
    refine ev_pos (by omega) (ev_pos (by omega) (ev_pos (by omega) (ev_pos (by omega) (ev_pos (by omega) (ev_pos (by omega) ?_)))))
    have e : wrap64 ((i : Int) + 1) = ((i + 1 : Nat) : Int) := by unfold wrap64; omega
    rw [e]
    have e2 : outs h v i ++ [Go.bits .and .i64 (wrap64 (rdI h (i : Int) + rdI v (i : Int))) 4294967295] = outs h v (i + 1) := by simp [outs, List.range_succ]
    rw [e2]
    exact impl_ShaBlock.ev4 v hh d (i + 1) (by omega)
theorem impl_ShaBlock.ev3 (hh : h.length = 8) (W : List Int) (hW : Ws W) (hWl : W.length = 64) : ∀ (d i : Nat) (v : List Int), i + d = 64 → Ws v → v.length = 8 → Ev (fun k => impl_ShaBlock.l3 k y0 h false shaK (i : Int) W v) (false, outs h (rnds shaK W d i v) 8)
  | 0, i, v, hi, hv, hl => by
    obtain rfl : i = 64 := by omega
    refine ev_step ?_
    simp only [impl_ShaBlock.l3, impl_ShaBlock.l3b]
    exact ev_neg (by omega) (impl_ShaBlock.ev4 y0 h v hh 8 0 (by omega))
  | d + 1, i, v, hi, hv, hl => by
    refine ev_step ?_
    simp only [impl_ShaBlock.l3, impl_ShaBlock.l3b]
    have hk : shaK.length = 64 := rfl
    have r := fun j => Ws_rd hv j
    refine ev_pos (by omega) (Ev.bind (impl_TurnRight.ev _ _ (r 4) (by omega) (by omega)) (Ev.bind (impl_TurnRight.ev _ _ (r 4) (by omega) (by omega)) (Ev.bind (impl_TurnRight.ev _ _ (r 4) (by omega) (by omega)) ?_)))
    refine ev_pos (by omega) (ev_pos (by omega) (ev_pos (by omega) (ev_pos (by omega) ?_)))
    refine Ev.bind (impl_TurnRight.ev _ _ (r 0) (by omega) (by omega)) (Ev.bind (impl_TurnRight.ev _ _ (r 0) (by omega) (by omega)) (Ev.bind (impl_TurnRight.ev _ _ (r 0) (by omega) (by omega)) ?_))
    have e : wrap64 ((i : Int) + 1) = ((i + 1 : Nat) : Int) := by unfold wrap64; omega
    rw [e, ch_eq (r 4) (r 5) (r 6), maj_eq (r 0) (r 1) (r 2)]
    exact impl_ShaBlock.ev3 hh W hW hWl d (i + 1) (rnd shaK W i v) (by omega) (rnd_W _ _ _ hv).1 rfl
theorem impl_ShaBlock.ev2 (hh : h.length = 8) (hw : Ws h) : ∀ (d : Nat) (W : List Int), W.length + d = 64 → 16 ≤ W.length → Ws W → Ev (fun k => impl_ShaBlock.l2 k y0 h false shaK (W.length : Int) (pad W)) (false, outs h (rnds shaK (grow W d) 64 0 h) 8)
  | 0, W, hi, h16, hW => by
    refine ev_step ?_
    simp only [impl_ShaBlock.l2, impl_ShaBlock.l2b]
    have e : h.take 8 ++ ([0, 0, 0, 0, 0, 0, 0, 0] : List Int).drop h.length = h := by
      rw [List.take_of_length_le (by omega), hh]
      simp
    have ep : pad W = W := by
      have : 64 - W.length = 0 := by omega
      simp [pad, this]
    rw [e, ep]
    exact ev_neg (by omega) (impl_ShaBlock.ev3 y0 h hh W hW (by omega) 64 0 h (by omega) hw hh)
  | d + 1, W, hi, h16, hW => by
    have hw2 : W.length < 64 := by omega
    have hl : (W ++ [sc W]).length = W.length + 1 := by simp
    have ih := impl_ShaBlock.ev2 hh hw d (W ++ [sc W]) (by omega) (by omega) (grow_W 1 W hW)
    rw [hl, ← pad_set hw2] at ih
    refine ev_step ?_
    simp only [impl_ShaBlock.l2, impl_ShaBlock.l2b]
    have a15 : wrap64 ((W.length : Int) - 15) = ((W.length - 15 : Nat) : Int) := by unfold wrap64; omega
    have a2 : wrap64 ((W.length : Int) - 2) = ((W.length - 2 : Nat) : Int) := by unfold wrap64; omega
    have a16 : wrap64 ((W.length : Int) - 16) = ((W.length - 16 : Nat) : Int) := by unfold wrap64; omega
    have a7 : wrap64 ((W.length : Int) - 7) = ((W.length - 7 : Nat) : Int) := by unfold wrap64; omega
    rw [a15, a2, a16, a7, pad_rd (n := W.length - 15) (by omega), pad_rd (n := W.length - 2) (by omega), pad_rd (n := W.length - 16) (by omega), pad_rd (n := W.length - 7) (by omega)]
    clear a15 a2 a16 a7
    have r := fun j => Ws_rd hW j
    refine ev_pos (by omega) (ev_pos (by omega) (ev_pos (by omega) (ev_pos (by omega) (ev_pos (by omega) ?_))))
    refine Ev.bind (impl_TurnRight.ev _ _ (r _) (by omega) (by omega)) (Ev.bind (impl_TurnRight.ev _ _ (r _) (by omega) (by omega)) (Ev.bind (impl_TurnRight.ev _ _ (r _) (by omega) (by omega)) (Ev.bind (impl_TurnRight.ev _ _ (r _) (by omega) (by omega)) ?_)))
    refine ev_pos (by omega) (ev_pos (by omega) (ev_pos (by omega) (ev_pos (by omega) (ev_pos (by omega) (ev_pos (by omega) ?_)))))
    have e : wrap64 ((W.length : Int) + 1) = ((W.length + 1 : Nat) : Int) := by unfold wrap64; omega
    rw [e, Int.toNat_natCast, ← sc_def]
    exact ih
theorem impl_ShaBlock.ev1 (hh : h.length = 8) (hw : Ws h) (hb : b.length = 64) (hbb : bytesOk b) : ∀ (d i : Nat), i + d = 16 → Ev (fun k => impl_ShaBlock.l1 k y0 h y1 b false shaK (i : Int) (pad ((List.range i).map (wb b)))) (false, shaBlk h b)
  | 0, i, hi => by
    obtain rfl : i = 16 := by omega
    refine ev_step ?_
    simp only [impl_ShaBlock.l1, impl_ShaBlock.l1b]
    have := impl_ShaBlock.ev2 y0 h hh hw 48 ((List.range 16).map (wb b)) (by simp) (by simp) (fun x hx => by
      obtain ⟨i, _, rfl⟩ := List.mem_map.1 hx
      exact wb_W hbb i)
    have hl : ((List.range 16).map (wb b)).length = 16 := by simp
    rw [hl] at this
    exact ev_neg (by omega) this
  | d + 1, i, hi => by
    refine ev_step ?_
    simp only [impl_ShaBlock.l1, impl_ShaBlock.l1b]
    have e4 : wrap64 ((4 : Int) * (i : Int)) = ((4 * i : Nat) : Int) := by unfold wrap64; omega
    have e41 : wrap64 (((4 * i : Nat) : Int) + 1) = ((4 * i + 1 : Nat) : Int) := by unfold wrap64; omega
    have e42 : wrap64 (((4 * i : Nat) : Int) + 2) = ((4 * i + 2 : Nat) : Int) := by unfold wrap64; omega
    have e43 : wrap64 (((4 * i : Nat) : Int) + 3) = ((4 * i + 3 : Nat) : Int) := by unfold wrap64; omega
    have e : wrap64 ((i : Int) + 1) = ((i + 1 : Nat) : Int) := by unfold wrap64; omega
    rw [e4, e41, e42, e43, e]
    clear e4 e41 e42 e43 e
    refine ev_pos (by omega) (ev_pos (by omega) (ev_pos (by omega) (ev_pos (by omega) (ev_pos (by omega) (ev_pos (by omega) (ev_pos (by omega) (ev_pos (by omega) (ev_pos (by omega) (ev_pos (by omega) (ev_pos (by omega) ?_))))))))))
    have ih := impl_ShaBlock.ev1 hh hw hb hbb d (i + 1) (by omega)
    have hs := pad_set (w := (List.range i).map (wb b)) (by simp; omega) (wb b i)
    have hl : ((List.range i).map (wb b)).length = i := by simp
    rw [hl] at hs
    rw [List.range_succ, List.map_append, List.map_singleton, ← hs] at ih
    rw [Int.toNat_natCast]
    exact ih
theorem impl_ShaBlock.ev0 (hh : h.length = 8) (hw : Ws h) (hb : b.length = 64) (hbb : bytesOk b) : ∀ (d i : Nat), i + d = 8 → Ev (fun k => impl_ShaBlock.l0 k y0 h y1 b y2 h (h.length : Int) (i : Int)) (false, shaBlk h b)
  | 0, i, hi => by
    obtain rfl : i = 8 := by omega
    refine ev_step ?_
    simp only [impl_ShaBlock.l0, impl_ShaBlock.l0b]
    exact ev_neg (by omega) (Ev.bind impl_rounds.ev (impl_ShaBlock.ev1 y0 y1 h b hh hw hb hbb 16 0 (by omega)))
  | d + 1, i, hi => by
    refine ev_step ?_
    simp only [impl_ShaBlock.l0, impl_ShaBlock.l0b]
    have e : wrap64 ((i : Int) + 1) = ((i + 1 : Nat) : Int) := by unfold wrap64; omega
    have hx := Ws_rd hw (i : Int)
    rw [e]
    exact ev_pos (by omega) (ev_pos (by omega) (ev_pos (by omega) (Ev.bind (impl_isWord.ev _) (ev_neg (by simp [hx.1, hx.2]) (impl_ShaBlock.ev0 hh hw hb hbb d (i + 1) (by omega))))))
theorem impl_ShaBlock.ev (hh : h.length = 8) (hw : Ws h) (hb : b.length = 64) (hbb : bytesOk b) : Ev (fun k => impl_ShaBlock.f k y0 h y1 b) (false, shaBlk h b) := by
  refine ev_step ?_
  simp only [impl_ShaBlock.f, impl_ShaBlock.b]
  exact ev_neg (by simp; omega) (ev_neg (by simp; omega) (impl_ShaBlock.ev0 y0 y1 y0 h b hh hw hb hbb 8 0 (by omega)))


theorem spec_ShaBlock.ev4 (v : List Int) (hh : h.length = 8) (hv : v.length = 8) : ∀ (d i : Nat), i + d = 8 → Ev (fun k => spec_ShaBlock.l4 k y0 h y1 v (outs h v i) (h.length : Int) (i : Int)) (false, outs h v 8)
  | 0, i, hi => by
    obtain rfl : i = 8 := by omega
    refine ev_step ?_
    simp only [spec_ShaBlock.l4, spec_ShaBlock.l4b]
    exact ev_neg (by omega) (ev_some rfl)
  | d + 1, i, hi => by
    refine ev_step ?_
    simp only [spec_ShaBlock.l4, spec_ShaBlock.l4b]
    have hl := (outs_W h v i).2
    refine ev_pos (by omega) (ev_pos (by omega) (ev_pos (by omega) (ev_pos (by omega) (ev_pos (by omega) (ev_pos (by omega) ?_)))))
    have e : wrap64 ((i : Int) + 1) = ((i + 1 : Nat) : Int) := by unfold wrap64; omega
    rw [e]
    have e2 : outs h v i ++ [Go.bits .and .i64 (wrap64 (rdI h (i : Int) + rdI v (i : Int))) 4294967295] = outs h v (i + 1) := by simp [outs, List.range_succ]
    rw [e2]
    exact spec_ShaBlock.ev4 v hh hv d (i + 1) (by omega)
theorem spec_ShaBlock.ev3 (hh : h.length = 8) (W : List Int) (hWl : W.length = 64) : ∀ (d i : Nat) (z : Bool) (v : List Int), i + d = 64 → v.length = 8 → Ev (fun k => spec_ShaBlock.l3 k y0 h W false shaK z v (i : Int)) (false, outs h (rnds shaK W d i v) 8)
  | 0, i, z, v, hi, hl => by
    obtain rfl : i = 64 := by omega
    refine ev_step ?_
    simp only [spec_ShaBlock.l3, spec_ShaBlock.l3b]
    exact ev_neg (by omega) (spec_ShaBlock.ev4 y0 z h v hh hl 8 0 (by omega))
  | d + 1, i, z, v, hi, hl => by
    refine ev_step ?_
    simp only [spec_ShaBlock.l3, spec_ShaBlock.l3b]
    have hk : shaK.length = 64 := rfl
    have e : wrap64 ((i : Int) + 1) = ((i + 1 : Nat) : Int) := by unfold wrap64; omega
    rw [e]
    refine ev_pos (by omega) (ev_pos (by omega) (ev_pos (by omega) (ev_pos (by omega) ?_)))
    refine Ev.bind (spec_l04Turn.ev _ _ (by omega) (by omega)) (Ev.bind (spec_l04Turn.ev _ _ (by omega) (by omega)) (Ev.bind (spec_l04Turn.ev _ _ (by omega) (by omega)) ?_))
    refine ev_pos (by omega) (ev_pos (by omega) (ev_pos (by omega) (ev_pos (by omega) (ev_pos (by omega) (ev_pos (by omega) ?_)))))
    refine Ev.bind (spec_l04Turn.ev _ _ (by omega) (by omega)) (Ev.bind (spec_l04Turn.ev _ _ (by omega) (by omega)) (Ev.bind (spec_l04Turn.ev _ _ (by omega) (by omega)) ?_))
    refine ev_pos (by omega) (ev_pos (by omega) (ev_pos (by omega) (ev_pos (by omega) (ev_pos (by omega) (ev_pos (by omega) (ev_pos (by omega) (ev_pos (by omega) (ev_pos (by omega) (ev_pos (by omega) (ev_pos (by omega) ?_))))))))))
    exact spec_ShaBlock.ev3 hh W hWl d (i + 1) false (rnd shaK W i v) (by omega) rfl
theorem spec_ShaBlock.ev2 (hh : h.length = 8) : ∀ (d : Nat) (W : List Int), W.length + d = 64 → 16 ≤ W.length → Ev (fun k => spec_ShaBlock.l2 k y0 h W (W.length : Int)) (false, outs h (rnds shaK (grow W d) 64 0 h) 8)
  | 0, W, hi, h16 => by
    refine ev_step ?_
    simp only [spec_ShaBlock.l2, spec_ShaBlock.l2b]
    exact ev_neg (by omega) (Ev.bind spec_l04K.ev (ev_pos (by omega) (spec_ShaBlock.ev3 y0 h hh W (by omega) 64 0 _ h (by omega) hh)))
  | d + 1, W, hi, h16 => by
    have hl : (W ++ [sc W]).length = W.length + 1 := by simp
    have ih := spec_ShaBlock.ev2 hh d (W ++ [sc W]) (by omega) (by omega)
    rw [hl] at ih
    refine ev_step ?_
    simp only [spec_ShaBlock.l2, spec_ShaBlock.l2b]
    have a15 : wrap64 ((W.length : Int) - 15) = ((W.length - 15 : Nat) : Int) := by unfold wrap64; omega
    have a2 : wrap64 ((W.length : Int) - 2) = ((W.length - 2 : Nat) : Int) := by unfold wrap64; omega
    have a16 : wrap64 ((W.length : Int) - 16) = ((W.length - 16 : Nat) : Int) := by unfold wrap64; omega
    have a7 : wrap64 ((W.length : Int) - 7) = ((W.length - 7 : Nat) : Int) := by unfold wrap64; omega
    have e : wrap64 ((W.length : Int) + 1) = ((W.length + 1 : Nat) : Int) := by unfold wrap64; omega
    rw [a15, a2, a16, a7, e]
    clear a15 a2 a16 a7 e
    refine ev_pos (by omega) (ev_pos (by omega) (ev_pos (by omega) (ev_pos (by omega) (ev_pos (by omega) ?_))))
    refine Ev.bind (spec_l04Turn.ev _ _ (by omega) (by omega)) (Ev.bind (spec_l04Turn.ev _ _ (by omega) (by omega)) (Ev.bind (spec_l04Turn.ev _ _ (by omega) (by omega)) (Ev.bind (spec_l04Turn.ev _ _ (by omega) (by omega)) ?_)))
    refine ev_pos (by omega) (ev_pos (by omega) (ev_pos (by omega) (ev_pos (by omega) (ev_pos (by omega) ?_))))
    rw [← sc_def]
    exact ih
theorem spec_ShaBlock.ev1 (hh : h.length = 8) (hb : b.length = 64) : ∀ (d i : Nat), i + d = 16 → Ev (fun k => spec_ShaBlock.l1 k y0 h y1 b ((List.range i).map (wb b)) ((4 * i : Nat) : Int)) (false, shaBlk h b)
  | 0, i, hi => by
    obtain rfl : i = 16 := by omega
    refine ev_step ?_
    simp only [spec_ShaBlock.l1, spec_ShaBlock.l1b]
    have := spec_ShaBlock.ev2 y0 h hh 48 ((List.range 16).map (wb b)) (by simp) (by simp)
    have hl : ((List.range 16).map (wb b)).length = 16 := by simp
    rw [hl] at this
    exact ev_neg (by omega) this
  | d + 1, i, hi => by
    refine ev_step ?_
    simp only [spec_ShaBlock.l1, spec_ShaBlock.l1b]
    have e41 : wrap64 (((4 * i : Nat) : Int) + 1) = ((4 * i + 1 : Nat) : Int) := by unfold wrap64; omega
    have e42 : wrap64 (((4 * i : Nat) : Int) + 2) = ((4 * i + 2 : Nat) : Int) := by unfold wrap64; omega
    have e43 : wrap64 (((4 * i : Nat) : Int) + 3) = ((4 * i + 3 : Nat) : Int) := by unfold wrap64; omega
    have e44 : wrap64 (((4 * i : Nat) : Int) + 4) = ((4 * (i + 1) : Nat) : Int) := by unfold wrap64; omega
    rw [e41, e42, e43, e44]
    clear e41 e42 e43 e44
    have hl : ((List.range i).map (wb b)).length = i := by simp
    refine ev_pos (by omega) (ev_pos (by omega) (ev_pos (by omega) (ev_pos (by omega) (ev_pos (by omega) (ev_pos (by omega) (ev_pos (by omega) (ev_pos (by omega) (ev_pos (by omega) (ev_pos (by omega) ?_)))))))))
    have ih := spec_ShaBlock.ev1 hh hb d (i + 1) (by omega)
    rw [List.range_succ, List.map_append, List.map_singleton] at ih
    exact ih
theorem spec_ShaBlock.ev0 (hh : h.length = 8) (hw : Ws h) (hb : b.length = 64) : ∀ (d i : Nat), i + d = 8 → Ev (fun k => spec_ShaBlock.l0 k y0 h y1 b y2 h (h.length : Int) (i : Int)) (false, shaBlk h b)
  | 0, i, hi => by
    obtain rfl : i = 8 := by omega
    refine ev_step ?_
    simp only [spec_ShaBlock.l0, spec_ShaBlock.l0b]
    exact ev_neg (by omega) (spec_ShaBlock.ev1 y0 y1 h b hh hb 16 0 (by omega))
  | d + 1, i, hi => by
    refine ev_step ?_
    simp only [spec_ShaBlock.l0, spec_ShaBlock.l0b]
    have e : wrap64 ((i : Int) + 1) = ((i + 1 : Nat) : Int) := by unfold wrap64; omega
    have hx := Ws_rd hw (i : Int)
    rw [e]
    exact ev_pos (by omega) (ev_pos (by omega) (ev_pos (by omega) (Ev.bind (spec_l04Word.ev _) (ev_neg (by simp [hx.1, hx.2]) (spec_ShaBlock.ev0 hh hw hb d (i + 1) (by omega))))))
theorem spec_ShaBlock.ev (hh : h.length = 8) (hw : Ws h) (hb : b.length = 64) : Ev (fun k => spec_ShaBlock.f k y0 h y1 b) (false, shaBlk h b) := by
  refine ev_step ?_
  simp only [spec_ShaBlock.f, spec_ShaBlock.b]
  exact ev_neg (by simp; omega) (ev_neg (by simp; omega) (spec_ShaBlock.ev0 y0 y1 y0 h b hh hw hb 8 0 (by omega)))
theorem shaBlk_W : Ws (shaBlk h b) ∧ (shaBlk h b).length = 8 := outs_W _ _ _
end
end Go.Proofs.YtbpcnodmgphinaaG
namespace Go.Proofs.YtbpcnodmgphinaaG
open Go Go.Proofs.YtbpcnodmgphinaaRv Go.RowKit
set_option linter.unusedVariables false
set_option linter.unusedSimpArgs false


def padz : Nat → List Int → List Int
  | 0, l => l
  | d + 1, l => if l.length % 64 = 56 then l else padz d (l ++ [0])
theorem padz_spec : ∀ (d : Nat) (l : List Int), (∃ j, j ≤ d ∧ (l.length + j) % 64 = 56) → (padz d l).length % 64 = 56 ∧ (padz d l).length ≤ l.length + d ∧ (bytesOk l → bytesOk (padz d l))
  | 0, l, ⟨j, h1, h2⟩ => by
    obtain rfl : j = 0 := by omega
    exact ⟨by simpa [padz] using h2, by simp [padz], fun h => h⟩
  | d + 1, l, ⟨j, h1, h2⟩ => by
    unfold padz
    split
    · rename_i h
      exact ⟨h, by omega, fun h => h⟩
    · rename_i h
      have hj : j ≠ 0 := fun e => h (by rw [← h2, e, Nat.add_zero])
      obtain ⟨p1, p2, p3⟩ := padz_spec d (l ++ [0]) ⟨j - 1, by omega, by simp only [List.length_append, List.length_singleton]; rw [← h2]; congr 1; omega⟩
      refine ⟨p1, by simp only [List.length_append, List.length_singleton] at p2; omega, fun hb => p3 fun x hx => ?_⟩
      rcases List.mem_append.1 hx with hx | hx
      · exact hb x hx
      · rw [List.mem_singleton.1 hx]; omega
def padl (n : Int) : Nat → List Int → List Int
  | 0, l => l
  | d + 1, l => padl n d (l ++ [(shrI .i64 n (wrap64 ((8 : Int) * (d : Int)))) % 256])
theorem padl_spec (n : Int) : ∀ (d : Nat) (l : List Int), (padl n d l).length = l.length + d ∧ (bytesOk l → bytesOk (padl n d l))
  | 0, l => ⟨rfl, fun h => h⟩
  | d + 1, l => by
    obtain ⟨h1, h2⟩ := padl_spec n d (l ++ [(shrI .i64 n (wrap64 ((8 : Int) * (d : Int)))) % 256])
    refine ⟨by rw [padl, h1]; simp; omega, fun hb => h2 fun x hx => ?_⟩
    rcases List.mem_append.1 hx with hx | hx
    · exact hb x hx
    · rw [List.mem_singleton.1 hx]; omega
def shaPadV (l : List Int) : List Int := padl (wrap64 ((8 : Int) * (l.length : Int))) 8 (padz 64 (l ++ [128]))
theorem mod_ex (n : Nat) : ∃ j, j ≤ 64 ∧ (n + j) % 64 = 56 := ⟨(56 + 64 - n % 64) % 64, by omega, by omega⟩
theorem shaPadV_spec (l : List Int) (hb : bytesOk l) : (shaPadV l).length % 64 = 0 ∧ (shaPadV l).length ≤ l.length + 73 ∧ bytesOk (shaPadV l) := by
  obtain ⟨p1, p2, p3⟩ := padz_spec 64 (l ++ [128]) (mod_ex _)
  obtain ⟨q1, q2⟩ := padl_spec (wrap64 ((8 : Int) * (l.length : Int))) 8 (padz 64 (l ++ [128]))
  unfold shaPadV
  simp only [List.length_append, List.length_singleton] at p2
  refine ⟨by omega, by omega, q2 (p3 fun x hx => ?_)⟩
  rcases List.mem_append.1 hx with hx | hx
  · exact hb x hx
  · rw [List.mem_singleton.1 hx]; omega
theorem tmod_len (n : Nat) : Int.tmod (n : Int) 64 = ((n % 64 : Nat) : Int) := by rw [Int.tmod_eq_emod_of_nonneg (by omega)]; omega
theorem dec_nat (d : Nat) (h : d ≤ 100) : wrap64 ((d : Int) - 1) = (d : Int) - 1 := by unfold wrap64; omega
theorem mul8 (d : Nat) (h : d ≤ 100) : (0 : Int) ≤ wrap64 ((8 : Int) * (d : Int)) := by unfold wrap64; omega

section
variable (z : Bool) (l : List Int)
theorem impl_ShaPad.ev1 : ∀ (d : Nat) (acc : List Int), d ≤ 8 → acc.length + d ≤ 1073741840 → Ev (fun k => impl_ShaPad.l1 k z l acc ((d : Int) - 1)) (false, padl (wrap64 ((8 : Int) * (l.length : Int))) d acc)
  | 0, acc, h8, ha => by
    refine ev_step ?_
    simp only [impl_ShaPad.l1, impl_ShaPad.l1b]
    exact ev_neg (by omega) (ev_some rfl)
  | d + 1, acc, h8, ha => by
    refine ev_step ?_
    have ih := impl_ShaPad.ev1 d (acc ++ [(shrI .i64 (wrap64 ((8 : Int) * (l.length : Int))) (wrap64 ((8 : Int) * (d : Int)))) % 256]) (by omega) (by simp; omega)
    simp only [impl_ShaPad.l1, impl_ShaPad.l1b]
    have e : (((d + 1 : Nat) : Int) - 1) = (d : Int) := by omega
    rw [e, dec_nat d (by omega)]
    exact ev_pos (by omega) (ev_pos (mul8 d (by omega)) (ev_pos (by omega) ih))
theorem impl_ShaPad.ev0 : ∀ (d : Nat) (acc : List Int), (∃ j, j ≤ d ∧ (acc.length + j) % 64 = 56) → acc.length + d ≤ 1073741800 → Ev (fun k => impl_ShaPad.l0 k z l acc) (false, padl (wrap64 ((8 : Int) * (l.length : Int))) 8 (padz d acc))
  | 0, acc, ⟨j, h1, h2⟩, ha => by
    obtain rfl : j = 0 := by omega
    refine ev_step ?_
    simp only [impl_ShaPad.l0, impl_ShaPad.l0b, tmod_len]
    exact ev_neg (by simp; omega) (impl_ShaPad.ev1 z l 8 acc (by omega) (by omega))
  | d + 1, acc, hj, ha => by
    refine ev_step ?_
    simp only [impl_ShaPad.l0, impl_ShaPad.l0b, tmod_len]
    unfold padz
    split
    · rename_i h
      exact ev_neg (by simp; omega) (impl_ShaPad.ev1 z l 8 acc (by omega) (by omega))
    · rename_i h
      obtain ⟨j, h1, h2⟩ := hj
      have hj : j ≠ 0 := fun e => h (by rw [← h2, e, Nat.add_zero])
      exact ev_pos (by simp; omega) (ev_pos (by omega) (impl_ShaPad.ev0 d (acc ++ [0]) ⟨j - 1, by omega, by simp only [List.length_append, List.length_singleton]; rw [← h2]; congr 1; omega⟩ (by simp; omega)))
theorem impl_ShaPad.ev (h : l.length ≤ 1073741000) : Ev (fun k => impl_ShaPad.f k z l) (false, shaPadV l) := by
  refine ev_step ?_
  simp only [impl_ShaPad.f, impl_ShaPad.b]
  exact Ev.bind (impl_copyBytes.ev z l (by omega)) (ev_pos (by show l.length + 1 < _; omega) (impl_ShaPad.ev0 z l 64 (l ++ [128]) (mod_ex _) (by simp; omega)))
theorem spec_ShaPad.ev1 (n : Int) : ∀ (d : Nat) (acc : List Int), d ≤ 8 → acc.length + d ≤ 1073741840 → Ev (fun k => spec_ShaPad.l1 k acc n ((d : Int) - 1)) (false, padl n d acc)
  | 0, acc, h8, ha => by
    refine ev_step ?_
    simp only [spec_ShaPad.l1, spec_ShaPad.l1b]
    exact ev_neg (by omega) (ev_some rfl)
  | d + 1, acc, h8, ha => by
    refine ev_step ?_
    have ih := spec_ShaPad.ev1 n d (acc ++ [(shrI .i64 n (wrap64 ((8 : Int) * (d : Int)))) % 256]) (by omega) (by simp; omega)
    simp only [spec_ShaPad.l1, spec_ShaPad.l1b]
    have e : (((d + 1 : Nat) : Int) - 1) = (d : Int) := by omega
    rw [e, dec_nat d (by omega)]
    exact ev_pos (by omega) (ev_pos (mul8 d (by omega)) (ev_pos (by omega) ih))
theorem spec_ShaPad.ev0 : ∀ (d : Nat) (acc : List Int), (∃ j, j ≤ d ∧ (acc.length + j) % 64 = 56) → acc.length + d ≤ 1073741800 → Ev (fun k => spec_ShaPad.l0 k z l acc) (false, padl (wrap64 ((8 : Int) * (l.length : Int))) 8 (padz d acc))
  | 0, acc, ⟨j, h1, h2⟩, ha => by
    obtain rfl : j = 0 := by omega
    refine ev_step ?_
    simp only [spec_ShaPad.l0, spec_ShaPad.l0b, tmod_len]
    exact ev_neg (by simp; omega) (spec_ShaPad.ev1 _ 8 acc (by omega) (by omega))
  | d + 1, acc, hj, ha => by
    refine ev_step ?_
    simp only [spec_ShaPad.l0, spec_ShaPad.l0b, tmod_len]
    unfold padz
    split
    · rename_i h
      exact ev_neg (by simp; omega) (spec_ShaPad.ev1 _ 8 acc (by omega) (by omega))
    · rename_i h
      obtain ⟨j, h1, h2⟩ := hj
      have hj : j ≠ 0 := fun e => h (by rw [← h2, e, Nat.add_zero])
      exact ev_pos (by simp; omega) (ev_pos (by omega) (spec_ShaPad.ev0 d (acc ++ [0]) ⟨j - 1, by omega, by simp only [List.length_append, List.length_singleton]; rw [← h2]; congr 1; omega⟩ (by simp; omega)))
theorem spec_ShaPad.ev (h : l.length ≤ 1073741000) : Ev (fun k => spec_ShaPad.f k z l) (false, shaPadV l) := by
  refine ev_step ?_
  simp only [spec_ShaPad.f, spec_ShaPad.b]
  exact Ev.bind (spec_l01Copy.ev z l (by omega)) (ev_pos (by show l.length + 1 < _; omega) (spec_ShaPad.ev0 z l 64 (l ++ [128]) (mod_ex _) (by simp; omega)))
end


def shaH0 : List Int := [1779033703, 3144134277, 1013904242, 2773480762, 1359893119, 2600822924, 528734635, 1541459225]
theorem shaH0_W : Ws shaH0 ∧ shaH0.length = 8 := by
  refine ⟨fun x hx => ?_, rfl⟩
  simp only [shaH0, List.mem_cons, List.not_mem_nil, or_false] at hx
  rcases hx with rfl | rfl | rfl | rfl | rfl | rfl | rfl | rfl <;> exact ⟨by omega, by omega⟩
def shaL (p : List Int) : Nat → Nat → List Int → List Int
  | 0, _, h => h
  | d + 1, i, h => shaL p d (i + 1) (shaBlk h ((p.take (64 * i + 64)).drop (64 * i)))
theorem shaL_W (p : List Int) : ∀ (d i : Nat) (h : List Int), Ws h ∧ h.length = 8 → Ws (shaL p d i h) ∧ (shaL p d i h).length = 8
  | 0, i, h, hh => hh
  | d + 1, i, h, hh => shaL_W p d (i + 1) _ (shaBlk_W _ _)
def four (x : Int) : List Int := [(shrI .i64 x 24) % 256, (shrI .i64 x 16) % 256, (shrI .i64 x 8) % 256, x % 256]
def sha (l : List Int) : List Int := (shaL (shaPadV l) ((shaPadV l).length / 64) 0 shaH0).flatMap four
theorem flat4 (h : List Int) : (h.flatMap four).length = 4 * h.length ∧ bytesOk (h.flatMap four) := by
  induction h with
  | nil => exact ⟨rfl, fun x hx => by simp at hx⟩
  | cons a t ih =>
    refine ⟨by rw [List.flatMap_cons, List.length_append, ih.1]; simp [four]; omega, fun x hx => ?_⟩
    rw [List.flatMap_cons] at hx
    rcases List.mem_append.1 hx with hx | hx
    · simp only [four, List.mem_cons, List.not_mem_nil, or_false] at hx
      rcases hx with rfl | rfl | rfl | rfl <;> omega
    · exact ih.2 x hx
theorem sha_spec (l : List Int) : (sha l).length = 32 ∧ bytesOk (sha l) := by
  obtain ⟨h1, h2⟩ := shaL_W (shaPadV l) ((shaPadV l).length / 64) 0 shaH0 shaH0_W
  obtain ⟨h3, h4⟩ := flat4 (shaL (shaPadV l) ((shaPadV l).length / 64) 0 shaH0)
  exact ⟨by unfold sha; rw [h3, h2], h4⟩
theorem cut64 {p : List Int} {i : Nat} (h : 64 * i + 64 ≤ p.length) : ((p.take (64 * i + 64)).drop (64 * i)).length = 64 := by simp; omega
theorem cut_ok {p : List Int} (h : bytesOk p) (a b : Nat) : bytesOk ((p.take a).drop b) := fun x hx => h x (List.mem_of_mem_take (List.mem_of_mem_drop hx))
theorem step64 (i : Nat) (h : i ≤ 100000000) : wrap64 (((64 * i : Nat) : Int) + 64) = ((64 * i + 64 : Nat) : Int) := by unfold wrap64; omega

theorem impl_ShaInit.ev : Ev (fun k => impl_ShaInit.f k) (false, shaH0) := by
  refine ev_step ?_
  simp only [impl_ShaInit.f, impl_ShaInit.b]
  exact ev_some rfl
theorem spec_ShaInit.ev : Ev (fun k => spec_ShaInit.f k) (false, shaH0) := by
  refine ev_step ?_
  simp only [spec_ShaInit.f, spec_ShaInit.b]
  exact ev_some rfl
theorem succ_nat (i : Nat) (h : i ≤ 1000000000) : wrap64 ((i : Int) + 1) = ((i + 1 : Nat) : Int) := by unfold wrap64; omega
theorem impl_Sha.ev1 (z : Bool) (h : List Int) (hh : h.length = 8) : ∀ (d i : Nat) (acc : List Int), i + d = 8 → acc.length = 4 * i → Ev (fun k => impl_Sha.l1 k acc z h (h.length : Int) (i : Int)) (false, acc ++ (h.drop i).flatMap four)
  | 0, i, acc, hi, ha => by
    refine ev_step ?_
    simp only [impl_Sha.l1, impl_Sha.l1b]
    refine ev_neg (by omega) (ev_some ?_)
    rw [List.drop_of_length_le (by omega)]
    simp
  | d + 1, i, acc, hi, ha => by
    have hlt : i < h.length := by omega
    refine ev_step ?_
    have ih := impl_Sha.ev1 z h hh d (i + 1) (acc ++ four h[i]) (by omega) (by simp [four]; omega)
    simp only [impl_Sha.l1, impl_Sha.l1b, rdI_nat hlt, succ_nat i (by omega)]
    refine ev_pos (by omega) (ev_pos (by omega) (ev_pos (by omega) (ev_pos (by omega) (ev_to ih ?_))))
    rw [List.drop_eq_getElem_cons hlt, List.flatMap_cons, List.append_assoc]
theorem impl_Sha.ev0 (z : Bool) (p : List Int) (hb : bytesOk p) (m : Nat) (hp : p.length = 64 * m) (hm : m ≤ 100000000) : ∀ (d i : Nat) (y : Bool) (h : List Int), i + d = m → Ws h ∧ h.length = 8 → Ev (fun k => impl_Sha.l0 k y h z p ((64 * i : Nat) : Int)) (false, (shaL p d i h).flatMap four)
  | 0, i, y, h, hi, hh => by
    refine ev_step ?_
    simp only [impl_Sha.l0, impl_Sha.l0b]
    refine ev_neg (by omega) (ev_to (impl_Sha.ev1 y h hh.2 8 0 [] (by omega) rfl) ?_)
    simp [shaL]
  | d + 1, i, y, h, hi, hh => by
    refine ev_step ?_
    have ih := impl_Sha.ev0 z p hb m hp hm d (i + 1) false (shaBlk h ((p.take (64 * i + 64)).drop (64 * i))) (by omega) (shaBlk_W _ _)
    simp only [impl_Sha.l0, impl_Sha.l0b, step64 i (by omega), Int.toNat_natCast]
    exact ev_pos (by omega) (ev_pos (by omega) (ev_pos (by omega) (ev_pos (by omega) (ev_pos (by omega) (Ev.bind (impl_ShaBlock.ev y z h _ hh.2 hh.1 (cut64 (by omega)) (cut_ok hb _ _)) ih)))))
theorem impl_Sha.ev (z : Bool) (l : List Int) (h : l.length ≤ 1073741000) (hb : bytesOk l) : Ev (fun k => impl_Sha.f k z l) (false, sha l) := by
  refine ev_step ?_
  simp only [impl_Sha.f, impl_Sha.b]
  obtain ⟨p1, p2, p3⟩ := shaPadV_spec l hb
  exact Ev.bind impl_ShaInit.ev (Ev.bind (impl_ShaPad.ev z l h) (impl_Sha.ev0 false (shaPadV l) p3 ((shaPadV l).length / 64) (by omega) (by omega) ((shaPadV l).length / 64) 0 false shaH0 (by omega) shaH0_W))
theorem spec_Sha.ev1 (z : Bool) (h : List Int) (hh : h.length = 8) : ∀ (d i : Nat) (acc : List Int), i + d = 8 → acc.length = 4 * i → Ev (fun k => spec_Sha.l1 k acc z h (h.length : Int) (i : Int)) (false, acc ++ (h.drop i).flatMap four)
  | 0, i, acc, hi, ha => by
    refine ev_step ?_
    simp only [spec_Sha.l1, spec_Sha.l1b]
    refine ev_neg (by omega) (ev_some ?_)
    rw [List.drop_of_length_le (by omega)]
    simp
  | d + 1, i, acc, hi, ha => by
    have hlt : i < h.length := by omega
    refine ev_step ?_
    have ih := spec_Sha.ev1 z h hh d (i + 1) (acc ++ four h[i]) (by omega) (by simp [four]; omega)
    simp only [spec_Sha.l1, spec_Sha.l1b, rdI_nat hlt, succ_nat i (by omega)]
    refine ev_pos (by omega) (ev_pos (by omega) (ev_pos (by omega) (ev_pos (by omega) (ev_to ih ?_))))
    rw [List.drop_eq_getElem_cons hlt, List.flatMap_cons, List.append_assoc]
theorem spec_Sha.ev0 (z : Bool) (p : List Int) (hb : bytesOk p) (m : Nat) (hp : p.length = 64 * m) (hm : m ≤ 100000000) : ∀ (d i : Nat) (y : Bool) (h : List Int), i + d = m → Ws h ∧ h.length = 8 → Ev (fun k => spec_Sha.l0 k y h z p ((64 * i : Nat) : Int)) (false, (shaL p d i h).flatMap four)
  | 0, i, y, h, hi, hh => by
    refine ev_step ?_
    simp only [spec_Sha.l0, spec_Sha.l0b]
    refine ev_neg (by omega) (ev_to (spec_Sha.ev1 y h hh.2 8 0 [] (by omega) rfl) ?_)
    simp [shaL]
  | d + 1, i, y, h, hi, hh => by
    refine ev_step ?_
    have ih := spec_Sha.ev0 z p hb m hp hm d (i + 1) false (shaBlk h ((p.take (64 * i + 64)).drop (64 * i))) (by omega) (shaBlk_W _ _)
    simp only [spec_Sha.l0, spec_Sha.l0b, step64 i (by omega), Int.toNat_natCast]
    exact ev_pos (by omega) (ev_pos (by omega) (ev_pos (by omega) (ev_pos (by omega) (ev_pos (by omega) (Ev.bind (spec_ShaBlock.ev y z h _ hh.2 hh.1 (cut64 (by omega))) ih)))))
theorem spec_Sha.ev (z : Bool) (l : List Int) (h : l.length ≤ 1073741000) (hb : bytesOk l) : Ev (fun k => spec_Sha.f k z l) (false, sha l) := by
  refine ev_step ?_
  simp only [spec_Sha.f, spec_Sha.b]
  obtain ⟨p1, p2, p3⟩ := shaPadV_spec l hb
  exact Ev.bind spec_ShaInit.ev (Ev.bind (spec_ShaPad.ev z l h) (spec_Sha.ev0 false (shaPadV l) p3 ((shaPadV l).length / 64) (by omega) (by omega) ((shaPadV l).length / 64) 0 false shaH0 (by omega) shaH0_W))


def macKey (l : List Int) : List Int := let k := if l.length > 64 then sha l else l; k ++ List.replicate (64 - k.length) 0
def xorB (c x : Int) : Int := Go.bits .xor .u8 c x
theorem xorB_ok (c x : Int) : 0 ≤ xorB c x ∧ xorB c x < 256 := by
  unfold xorB
  simp only [Go.bits]
  show 0 ≤ IntKind.u8.wrap _ ∧ IntKind.u8.wrap _ < 256
  rw [IntKind.wrap_u8]
  omega
def mac (key b : List Int) : List Int := sha ((macKey key).map (fun c => xorB c 92) ++ sha ((macKey key).map (fun c => xorB c 54) ++ b))
theorem mac_spec (key b : List Int) : (mac key b).length = 32 ∧ bytesOk (mac key b) := sha_spec _
theorem macKey_len (l : List Int) : (macKey l).length = 64 ∧ (bytesOk l → bytesOk (macKey l)) := by
  have hs := sha_spec l
  unfold macKey
  by_cases h : l.length > 64
  · rw [if_pos h]
    refine ⟨by simp [hs.1], fun _ x hx => ?_⟩
    rcases List.mem_append.1 hx with hx | hx
    · exact hs.2 x hx
    · rw [List.eq_of_mem_replicate hx]; omega
  · rw [if_neg h]
    refine ⟨by simp; omega, fun hb x hx => ?_⟩
    rcases List.mem_append.1 hx with hx | hx
    · exact hb x hx
    · rw [List.eq_of_mem_replicate hx]; omega
theorem front (k : List Int) (h : k.length ≤ 64) : k.take (List.replicate 64 (0 : Int)).length ++ (List.replicate 64 (0 : Int)).drop k.length = k ++ List.replicate (64 - k.length) 0 := by
  rw [List.length_replicate, List.take_of_length_le h, List.drop_replicate]
theorem impl_MacKey.ev (z : Bool) (l : List Int) (h : l.length ≤ 1073741000) (hb : bytesOk l) : Ev (fun k => impl_MacKey.f k z l) (false, macKey l) := by
  have hs := sha_spec l
  refine ev_step ?_
  simp only [impl_MacKey.f, impl_MacKey.b]
  refine ev_ite (fun c => Ev.bind (impl_Sha.ev z l h hb) (ev_some ?_)) (fun c => ev_some ?_)
  · have c' : l.length > 64 := by omega
    rw [front (sha l) (by omega), macKey, if_pos c']
  · have c' : ¬ l.length > 64 := by omega
    rw [front l (by omega), macKey, if_neg c']
theorem spec_MacKey.ev0 : ∀ (d : Nat) (l : List Int), l.length + d = 64 → Ev (fun k => spec_MacKey.l0 k false l) (false, l ++ List.replicate d 0)
  | 0, l, h => by
    refine ev_step ?_
    simp only [spec_MacKey.l0, spec_MacKey.l0b]
    exact ev_neg (by omega) (ev_some (by simp))
  | d + 1, l, h => by
    refine ev_step ?_
    simp only [spec_MacKey.l0, spec_MacKey.l0b]
    refine ev_pos (by omega) (ev_pos (by omega) (ev_to (spec_MacKey.ev0 d (l ++ [0]) (by simp; omega)) ?_))
    rw [List.replicate_succ, List.append_assoc, List.singleton_append]
theorem spec_MacKey.ev (z : Bool) (l : List Int) (h : l.length ≤ 1073741000) (hb : bytesOk l) : Ev (fun k => spec_MacKey.f k z l) (false, macKey l) := by
  have hs := sha_spec l
  refine ev_step ?_
  simp only [spec_MacKey.f, spec_MacKey.b]
  refine Ev.bind (spec_l01Copy.ev z l (by omega)) (ev_ite (fun c => Ev.bind (spec_Sha.ev false l h hb) ?_) (fun c => ?_))
  · have c' : l.length > 64 := by have : (l.length : Int) > 64 := c; omega
    have := spec_MacKey.ev0 (64 - (sha l).length) (sha l) (by omega)
    rw [macKey, if_pos c']
    exact this
  · have c' : ¬ l.length > 64 := by have : ¬ (l.length : Int) > 64 := c; omega
    have := spec_MacKey.ev0 (64 - l.length) l (by omega)
    rw [macKey, if_neg c']
    exact this
theorem impl_masked.ev0 (z : Bool) (l : List Int) (h : l.length ≤ 1073741) (x : Int) : ∀ (d i : Nat) (acc : List Int), i + d = l.length → acc.length = i → Ev (fun k => impl_masked.l0 k x acc z l (l.length : Int) (i : Int)) (false, acc ++ (l.drop i).map fun c => xorB c x)
  | 0, i, acc, hi, ha => by
    refine ev_step ?_
    simp only [impl_masked.l0, impl_masked.l0b]
    refine ev_neg (by omega) (ev_some ?_)
    rw [List.drop_of_length_le (by omega)]
    simp
  | d + 1, i, acc, hi, ha => by
    have hlt : i < l.length := by omega
    refine ev_step ?_
    have ih := impl_masked.ev0 z l h x d (i + 1) (acc ++ [xorB l[i] x]) (by omega) (by simp; omega)
    simp only [impl_masked.l0, impl_masked.l0b, rdI_nat hlt, succ_nat i (by omega)]
    refine ev_pos (by omega) (ev_pos (by omega) (ev_pos (by omega) (ev_pos (by omega) (ev_to ih ?_))))
    rw [List.drop_eq_getElem_cons hlt, List.map_cons, List.append_assoc, List.singleton_append]
theorem impl_masked.ev (z : Bool) (l : List Int) (h : l.length ≤ 1073741) (x : Int) : Ev (fun k => impl_masked.f k z l x) (false, l.map fun c => xorB c x) := by
  refine ev_step ?_
  simp only [impl_masked.f, impl_masked.b]
  exact ev_to (impl_masked.ev0 z l h x l.length 0 [] (by omega) rfl) (by simp)
theorem xors_ok (l : List Int) (x : Int) : bytesOk (l.map fun c => xorB c x) := fun y hy => by
  obtain ⟨c, _, rfl⟩ := List.mem_map.1 hy
  exact xorB_ok c x
theorem app_ok {a b : List Int} (ha : bytesOk a) (hb : bytesOk b) : bytesOk (a ++ b) := fun x hx => by
  rcases List.mem_append.1 hx with hx | hx
  · exact ha x hx
  · exact hb x hx
theorem impl_Mac.ev (y z : Bool) (key b : List Int) (h : key.length ≤ 1073741000) (hk : bytesOk key) (hb : b.length ≤ 1048576) (hbb : bytesOk b) : Ev (fun k => impl_Mac.f k y key z b) (false, mac key b) := by
  obtain ⟨m1, m2⟩ := macKey_len key
  have s1 := sha_spec ((macKey key).map (fun c => xorB c 54) ++ b)
  refine ev_step ?_
  simp only [impl_Mac.f, impl_Mac.b]
  refine Ev.bind (impl_MacKey.ev y key h hk) (Ev.bind (impl_masked.ev _ _ (by show (macKey key).length ≤ _; omega) 92) (Ev.bind (impl_masked.ev _ _ (by show (macKey key).length ≤ _; omega) 54) (ev_pos (by simp [m1]; omega) (Ev.bind (impl_Sha.ev _ _ (by simp [m1]; omega) (app_ok (xors_ok _ _) hbb)) (ev_pos (by simp [m1, s1.1]) (Ev.bind (impl_Sha.ev _ _ (by simp [m1, s1.1]) (app_ok (xors_ok _ _) s1.2)) (ev_some rfl)))))))
theorem spec_Mac.ev0 (y z : Bool) (b : List Int) (hb : b.length ≤ 1048576) (hbb : bytesOk b) (K : List Int) (hK : K.length = 64) : ∀ (d i : Nat) (p q : List Int), i + d = 64 → p.length = i → q.length = i → bytesOk p → bytesOk q →
    Ev (fun k => spec_Mac.l0 k y b p q z K (K.length : Int) (i : Int)) (false, sha ((q ++ (K.drop i).map fun c => xorB c 92) ++ sha ((p ++ (K.drop i).map fun c => xorB c 54) ++ b)))
  | 0, i, p, q, hi, hp, hq, hpo, hqo => by
    have s1 := sha_spec (p ++ b)
    refine ev_step ?_
    simp only [spec_Mac.l0, spec_Mac.l0b]
    rw [List.drop_of_length_le (by omega), List.map_nil, List.map_nil, List.append_nil, List.append_nil]
    exact ev_neg (by omega) (ev_pos (by omega) (Ev.bind (spec_Sha.ev _ _ (by simp; omega) (app_ok hpo hbb)) (ev_pos (by simp [s1.1]; omega) (Ev.bind (spec_Sha.ev _ _ (by simp [s1.1]; omega) (app_ok hqo s1.2)) (ev_some rfl)))))
  | d + 1, i, p, q, hi, hp, hq, hpo, hqo => by
    have hlt : i < K.length := by omega
    have one : ∀ x, bytesOk [xorB K[i] x] := fun x w hw => by rw [List.mem_singleton.1 hw]; exact xorB_ok _ _
    refine ev_step ?_
    have ih := spec_Mac.ev0 y z b hb hbb K hK d (i + 1) (p ++ [xorB K[i] 54]) (q ++ [xorB K[i] 92]) (by omega) (by simp; omega) (by simp; omega) (app_ok hpo (one _)) (app_ok hqo (one _))
    simp only [spec_Mac.l0, spec_Mac.l0b, rdI_nat hlt, succ_nat i (by omega)]
    refine ev_pos (by omega) (ev_pos (by omega) (ev_pos (by omega) (ev_pos (by omega) (ev_pos (by omega) (ev_to ih ?_)))))
    rw [List.drop_eq_getElem_cons hlt, List.map_cons, List.map_cons]
    simp only [List.append_assoc, List.singleton_append, List.cons_append, List.nil_append]
theorem spec_Mac.ev (y z : Bool) (key b : List Int) (h : key.length ≤ 1073741000) (hk : bytesOk key) (hb : b.length ≤ 1048576) (hbb : bytesOk b) : Ev (fun k => spec_Mac.f k y key z b) (false, mac key b) := by
  obtain ⟨m1, m2⟩ := macKey_len key
  refine ev_step ?_
  simp only [spec_Mac.f, spec_Mac.b]
  exact Ev.bind (spec_MacKey.ev y key h hk) (ev_to (spec_Mac.ev0 z false b hb hbb (macKey key) m1 64 0 [] [] (by omega) rfl rfl (fun x hx => by simp at hx) (fun x hx => by simp at hx)) (by simp [mac]))
end Go.Proofs.YtbpcnodmgphinaaG
namespace Go.Proofs.YtbpcnodmgphinaaG
open Go Go.Proofs.YtbpcnodmgphinaaRv Go.RowKit
set_option linter.unusedVariables false
set_option linter.unusedSimpArgs false


def Row.ok (r : Row) : Prop := r.f1.length ≤ 1048576 ∧ bytesOk r.f1
def Rows (l : List Row) : Prop := l.length ≤ 1048576 ∧ ∀ r ∈ l, r.ok
def Few (l : List Row) : Prop := l.length ≤ 1048576 ∧ ∀ r ∈ l, okB r.f1

end Go.Proofs.YtbpcnodmgphinaaG
namespace Go.Proofs.YtbpcnodmgphinaaG
open Go Go.Proofs.YtbpcnodmgphinaaRv Go.RowKit
set_option linter.unusedVariables false
set_option linter.unusedSimpArgs false

def voteV (a b : Int) (h : List Int) : Bool × List Int := if isNum a = true ∧ isNum b = true ∧ h.length = 32 then (false, 86 :: (vint 8 a ++ (vint 8 b ++ h))) else (true, [])
theorem spec_l07Hash.ev (z : Bool) (l : List Int) : Ev (fun k => spec_l07Hash.f k z l) (decide (l.length = 32)) := by
  refine ev_step ?_
  simp only [spec_l07Hash.f, spec_l07Hash.b]
  refine ev_some ?_
  have : ((l.length : Int) = 32) ↔ l.length = 32 := by omega
  simp [this]
theorem impl_areHashes.ev1 (y z : Bool) (l : List Int) : Ev (fun k => impl_areHashes.f k y [.nums 5 .u8 z l]) (decide (l.length = 32)) := by
  refine ev_step ?_
  simp only [impl_areHashes.f, impl_areHashes.b]
  refine ev_step ?_
  simp only [impl_areHashes.l0, impl_areHashes.l0b]
  refine ev_pos (by simp) (ev_pos (by simp) (ev_pos (by simp) ?_))
  have e : (((([.nums 5 .u8 z l] : List T).getD (0 : Int).toNat .bad).cells.getD 0 .bad).toNums) = l := rfl
  rw [e]
  refine ev_ite (fun c => ev_some ?_) (fun c => ?_)
  · have : ¬ l.length = 32 := fun h => c (by omega)
    simp [this]
  · have c' : l.length = 32 := by
      have : (l.length : Int) = 32 := by simpa using c
      omega
    refine ev_step ?_
    simp only [impl_areHashes.l0, impl_areHashes.l0b]
    refine ev_neg (by have : wrap64 ((0 : Int) + 1) = 1 := (by unfold wrap64; omega); rw [this]; simp) (ev_some (by simp [c']))
theorem spec_VoteBytes.ev (a b : Int) (z : Bool) (h : List Int) (hl : h.length ≤ 1048576) : Ev (fun k => spec_VoteBytes.f k a b z h) (voteV a b h) := by
  refine ev_step ?_
  simp only [spec_VoteBytes.f, spec_VoteBytes.b]
  refine Ev.bind (spec_l01Num.ev a) (ev_ite (fun c => ev_some ?_) fun c => Ev.bind (spec_l01Num.ev b) (ev_ite (fun d => ev_some ?_) fun d => Ev.bind (spec_l07Hash.ev z h) (ev_ite (fun e => ev_some ?_) fun e => ?_)))
  · simp at c; simp [voteV, c]
  · simp at d; simp [voteV, d]
  · have e' : ¬ h.length = 32 := by simpa using e
    simp [voteV, e']
  · simp at c d e
    have h1 := vint_length 8 a
    have h2 := vint_length 8 b
    refine Ev.bind (spec_l11Num.ev _ _ a (by simp)) (Ev.bind (spec_l11Num.ev _ _ b (by simp [putV, c]; omega)) (ev_pos (by simp [putV, c, d]; omega) (ev_some ?_)))
    simp [putV, voteV, c, d, e]
theorem impl_VoteBytes.ev (a b : Int) (z : Bool) (h : List Int) (hl : h.length ≤ 1048576) : Ev (fun k => impl_VoteBytes.f k a b z h) (voteV a b h) := by
  have h1 := vint_length 8 a
  have h2 := vint_length 8 b
  refine ev_step ?_
  simp only [impl_VoteBytes.f, impl_VoteBytes.b]
  refine Ev.bind (impl_numbers.ev 86 false [a, b] (by simp)) (ev_ite (fun c => ev_some ?_) fun c => Ev.bind (impl_areHashes.ev1 _ _ _) (ev_ite (fun e => ev_some ?_) fun e => ?_))
  · have : ¬ (isNum a = true ∧ isNum b = true) := fun hh => by simp [numsV, hh.1, hh.2] at c
    by_cases ca : isNum a = true
    · have cb : ¬ isNum b = true := fun hb => this ⟨ca, hb⟩
      simp [voteV, cb]
    · simp [voteV, ca]
  · have e' : ¬ h.length = 32 := by simpa using e
    simp [voteV, e']
  · have hh : isNum a = true ∧ isNum b = true := by
      unfold numsV at c
      split at c
      · rename_i hn
        exact ⟨hn a (by simp), hn b (by simp)⟩
      · exact (c rfl).elim
    have e' : h.length = 32 := by simpa using e
    refine ev_pos (by simp [numsV, hh.1, hh.2]; omega) (ev_some ?_)
    simp [numsV, voteV, hh.1, hh.2, e']
theorem voteV_len (a b : Int) (h : List Int) : (voteV a b h).2.length ≤ 51 ∧ ((voteV a b h).1 = decide ((voteV a b h).2 = [])) := by
  have h1 := vint_length 8 a
  have h2 := vint_length 8 b
  unfold voteV
  split
  · rename_i c
    simp [c.2.2]; omega
  · simp
theorem voteV_nice (a b : Int) {h : List Int} (hh : bytesOk h) : bytesOk (voteV a b h).2 := by
  unfold voteV
  split
  · rename_i c
    intro x hx
    simp only [List.mem_cons, List.mem_append] at hx
    rcases hx with rfl | hx | hx | hx
    · omega
    · exact vint_nice c.1 x hx
    · exact vint_nice c.2.1 x hx
    · exact hh x hx
  · intro x hx; simp at hx
def noVote : Int × Int × Bool × List Int × Int × Bool × List Int × Bool := (0, 0, true, [], 0, true, [], false)
def signVote (l : List Row) (view height : Int) (blk : List Int) (who : Int) : Int × Int × Bool × List Int × Int × Bool × List Int × Bool :=
  if tabOk l = true ∧ (voteV view height blk).1 = false ∧ (0 ≤ who ∧ who ≤ (l.length : Int) - 1) then (view, height, false, blk, who, false, mac (l.getD who.toNat default).f1 (voteV view height blk).2, true) else noVote
theorem impl_SignVote.ev (z : Bool) (l : List Row) (h : Rows l) (view height : Int) (y : Bool) (blk : List Int) (hb : blk.length ≤ 1048576) (hbb : bytesOk blk) (who : Int) : Ev (fun k => impl_SignVote.f k z (l.map Row.t) view height y blk who) (signVote l view height blk who) := by
  have hl := h.1
  have lb := voteV_len view height blk
  refine ev_step ?_
  simp only [impl_SignVote.f, impl_SignVote.b, List.length_map]
  have e1 : wrap64 ((l.length : Int) - 1) = (l.length : Int) - 1 := w64 (by omega) (by omega)
  rw [e1]
  clear e1
  refine Ev.bind (impl_VoteBytes.ev view height y blk hb) (Ev.bind (impl_TableOk.ev z l h.1) (ev_ite (fun c => ev_some ?_) fun c1 => ev_ite (fun c => ev_some ?_) fun c2 => Ev.bind (impl_within.ev _ _ _) (ev_ite (fun c => ev_some ?_) fun c3 => ?_)))
  · unfold signVote; rw [if_neg fun hh => c hh.1]; rfl
  · unfold signVote; rw [if_neg fun hh => by rw [hh.2.1] at c; cases c]; rfl
  · unfold signVote; rw [if_neg fun hh => c (by simpa using hh.2.2)]; rfl
  · have c3' : 0 ≤ who ∧ who ≤ (l.length : Int) - 1 := by simpa using c3
    obtain ⟨n, rfl⟩ := Int.eq_ofNat_of_zero_le c3'.1
    have hn : n < l.length := by omega
    have hr := h.2 _ (List.getElem_mem hn)
    rw [Int.toNat_natCast, row_at hn, Row.c1, Row.c1z]
    refine Ev.bind (impl_copyBytes.ev y blk (by omega)) (ev_pos (by omega) (ev_pos (by omega) (Ev.bind (impl_Mac.ev _ _ _ _ (by have := hr.1; omega) hr.2 (by have := lb.1; omega) (voteV_nice view height hbb)) (ev_some ?_))))
    unfold signVote
    rw [if_pos ⟨by simpa using c1, by simpa using c2, c3'⟩]
    simp [hn]
theorem spec_SignVote.ev (z : Bool) (l : List Row) (h : Rows l) (view height : Int) (y : Bool) (blk : List Int) (hb : blk.length ≤ 1048576) (hbb : bytesOk blk) (who : Int) : Ev (fun k => spec_SignVote.f k z (l.map Row.t) view height y blk who) (signVote l view height blk who) := by
  have hl := h.1
  have lb := voteV_len view height blk
  refine ev_step ?_
  simp only [spec_SignVote.f, spec_SignVote.b, List.length_map]
  have e1 : wrap64 ((l.length : Int) - 1) = (l.length : Int) - 1 := w64 (by omega) (by omega)
  rw [e1]
  clear e1
  refine Ev.bind (spec_VoteBytes.ev view height y blk hb) (Ev.bind (spec_TableOk.ev z l h.1) (ev_ite (fun c => ev_some ?_) fun c1 => ev_ite (fun c => ev_some ?_) fun c2 => Ev.bind (spec_l01In.ev _ _ _) (ev_ite (fun c => ev_some ?_) fun c3 => ?_)))
  · unfold signVote; rw [if_neg fun hh => c hh.1]; rfl
  · unfold signVote
    rw [if_neg fun hh => ?_]
    · rfl
    · have h1 := hh.2.1
      rw [lb.2] at h1
      have c' : (voteV view height blk).2 = [] := List.eq_nil_of_length_eq_zero (by have : (((voteV view height blk).2.length : Nat) : Int) = 0 := c; omega)
      simp [c'] at h1
  · unfold signVote; rw [if_neg fun hh => c (by simpa using hh.2.2)]; rfl
  · have c3' : 0 ≤ who ∧ who ≤ (l.length : Int) - 1 := by simpa using c3
    obtain ⟨n, rfl⟩ := Int.eq_ofNat_of_zero_le c3'.1
    have hn : n < l.length := by omega
    have hr := h.2 _ (List.getElem_mem hn)
    rw [Int.toNat_natCast, row_at hn, Row.c1, Row.c1z]
    refine Ev.bind (spec_l01Copy.ev y blk (by omega)) (ev_pos (by omega) (ev_pos (by omega) (Ev.bind (spec_Mac.ev _ _ _ _ (by have := hr.1; omega) hr.2 (by have := lb.1; omega) (voteV_nice view height hbb)) (ev_some ?_))))
    unfold signVote
    have hne : (voteV view height blk).1 = false := by
      rw [lb.2]
      have : (voteV view height blk).2 ≠ [] := fun e => c2 (by show (((voteV view height blk).2.length : Nat) : Int) = 0; rw [e]; rfl)
      simp [this]
    rw [if_pos ⟨by simpa using c1, hne, c3'⟩]
    simp [hn]
def voteSame (a1 a2 : Int) (a3 : List Int) (a4 : Int) (a5 : List Int) (b1 b2 : Int) (b3 : List Int) (b4 : Int) (b5 : List Int) : Bool := decide (a1 = b1) && (decide (a2 = b2) && (sameB a3 b3 && (decide (a4 = b4) && sameB a5 b5)))
theorem impl_VoteSame.ev (a1 a2 : Int) (x : Bool) (a3 : List Int) (a4 : Int) (y : Bool) (a5 : List Int) (b1 b2 : Int) (u : Bool) (b3 : List Int) (b4 : Int) (v : Bool) (b5 : List Int) : Ev (fun k => impl_VoteSame.f k a1 a2 x a3 a4 y a5 b1 b2 u b3 b4 v b5) (voteSame a1 a2 a3 a4 a5 b1 b2 b3 b4 b5) := by
  refine ev_step ?_
  simp only [impl_VoteSame.f, impl_VoteSame.b]
  unfold voteSame
  refine ev_ite (fun c1 => ev_ite (fun c2 => ev_ite (fun c4 => Ev.bind (impl_SameBytes.ev _ _ _ _) (ev_ite (fun c3 => Ev.bind (impl_SameBytes.ev _ _ _ _) (ev_some ?_)) fun c3 => ev_some ?_)) fun c4 => ev_some ?_) fun c2 => ev_some ?_) fun c1 => ev_some ?_
  all_goals simp_all
def voteGood (l : List Row) (view height : Int) (blk : List Int) (who : Int) (tag : List Int) : Bool :=
  (signVote l view height blk who).2.2.2.2.2.2.2 && voteSame (signVote l view height blk who).1 (signVote l view height blk who).2.1 (signVote l view height blk who).2.2.2.1 (signVote l view height blk who).2.2.2.2.1 (signVote l view height blk who).2.2.2.2.2.2.1 view height blk who tag
theorem impl_VoteGood.ev (z : Bool) (l : List Row) (h : Rows l) (view height : Int) (y : Bool) (blk : List Int) (hb : blk.length ≤ 1048576) (hbb : bytesOk blk) (who : Int) (x : Bool) (tag : List Int) : Ev (fun k => impl_VoteGood.f k z (l.map Row.t) view height y blk who x tag) (voteGood l view height blk who tag) := by
  refine ev_step ?_
  simp only [impl_VoteGood.f, impl_VoteGood.b]
  unfold voteGood
  refine Ev.bind (impl_SignVote.ev z l h view height y blk hb hbb who) (ev_ite (fun c => Ev.bind (impl_VoteSame.ev _ _ _ _ _ _ _ _ _ _ _ _ _ _) (ev_some ?_)) fun c => ev_some ?_)
  · rw [c]; rfl
  · have : (signVote l view height blk who).2.2.2.2.2.2.2 = false := by simpa using c
    rw [this]; rfl
end Go.Proofs.YtbpcnodmgphinaaG
namespace Go.Proofs.YtbpcnodmgphinaaG
open Go Go.Proofs.YtbpcnodmgphinaaRv Go.RowKit
set_option linter.unusedVariables false
set_option linter.unusedSimpArgs false

structure By where
  z : Bool
  l : List Int
instance : Inhabited By := ⟨⟨false, []⟩⟩
def By.t (b : By) : T := .nums 5 .u8 b.z b.l
theorem by_at {l : List By} {i : Nat} (h : i < l.length) : (l.map By.t).getD i .bad = (l[i]).t := by simp [List.getD_eq_getElem?_getD, h]
theorem By.c0z (b : By) : (b.t.cells.getD 0 .bad).isNil = b.z := rfl
theorem By.c0 (b : By) : (b.t.cells.getD 0 .bad).toNums = b.l := rfl
def FewB (l : List By) : Prop := l.length ≤ 1048576 ∧ ∀ b ∈ l, okB b.l
theorem getD_in {α : Type} [Inhabited α] {l : List α} {n : Nat} (h : n < l.length) : l.getD n default = l[n] := by simp [h]
structure QcV where
  v : Int
  h : Int
  bz : Bool
  blk : List Int
  mz : Bool
  bits : List Int
  tz : Bool
  tags : List By
structure Head where
  v : Int
  h : Int
  p : Int
  az : Bool
  par : List Int
  rz : Bool
  root : List Int
  q : QcV
instance : Inhabited Head := ⟨⟨0, 0, 0, false, [], false, [], ⟨0, 0, false, [], false, [], false, []⟩⟩⟩
def Head.t (x : Head) : T := .agg [.int .i64 x.v, .int .i64 x.h, .int .i64 x.p, .nums 5 .u8 x.az x.par, .nums 5 .u8 x.rz x.root, .int .i64 x.q.v, .int .i64 x.q.h, .nums 5 .u8 x.q.bz x.q.blk, .nums 5 .u8 x.q.mz x.q.bits, .sl 22 x.q.tz (x.q.tags.map By.t)]
theorem head_at {l : List Head} {i : Nat} (h : i < l.length) : (l.map Head.t).getD i .bad = (l[i]).t := by simp [List.getD_eq_getElem?_getD, h]
section
variable (x : Head)
theorem Head.c0 : (x.t.cells.getD 0 .bad).toInt = x.v := rfl
theorem Head.c1 : (x.t.cells.getD 1 .bad).toInt = x.h := rfl
theorem Head.c2 : (x.t.cells.getD 2 .bad).toInt = x.p := rfl
theorem Head.c3z : (x.t.cells.getD 3 .bad).isNil = x.az := rfl
theorem Head.c3 : (x.t.cells.getD 3 .bad).toNums = x.par := rfl
theorem Head.c4z : (x.t.cells.getD 4 .bad).isNil = x.rz := rfl
theorem Head.c4 : (x.t.cells.getD 4 .bad).toNums = x.root := rfl
theorem Head.c5 : (x.t.cells.getD 5 .bad).toInt = x.q.v := rfl
theorem Head.c6 : (x.t.cells.getD 6 .bad).toInt = x.q.h := rfl
theorem Head.c7z : (x.t.cells.getD 7 .bad).isNil = x.q.bz := rfl
theorem Head.c7 : (x.t.cells.getD 7 .bad).toNums = x.q.blk := rfl
theorem Head.c8z : (x.t.cells.getD 8 .bad).isNil = x.q.mz := rfl
theorem Head.c8 : (x.t.cells.getD 8 .bad).toNums = x.q.bits := rfl
theorem Head.c9z : (x.t.cells.getD 9 .bad).isNil = x.q.tz := rfl
theorem Head.c9 : (x.t.cells.getD 9 .bad).toList = x.q.tags.map By.t := rfl
end
def QcV.few (q : QcV) : Prop := okB q.blk ∧ okB q.bits ∧ FewB q.tags
def Head.few (x : Head) : Prop := okB x.par ∧ okB x.root ∧ x.q.few
def FewH (l : List Head) : Prop := l.length ≤ 1048576 ∧ ∀ x ∈ l, x.few
end Go.Proofs.YtbpcnodmgphinaaG
namespace Go.Proofs.YtbpcnodmgphinaaG
open Go Go.Proofs.YtbpcnodmgphinaaRv Go.RowKit
set_option linter.unusedVariables false
set_option linter.unusedSimpArgs false

structure Light where
  l0 : Int
  l1 : Int
  l2 : Int
  l3 : Int
  l4 : Int
  rz : Bool
  rows : List Row
  skip : Int
  bz : Bool
  buf : List Int
  cz : Bool
  chain : List Head
def Light.few (x : Light) : Prop := Few x.rows ∧ okB x.buf ∧ FewH x.chain
end Go.Proofs.YtbpcnodmgphinaaG
namespace Go.Proofs.YtbpcnodmgphinaaG
open Go Go.Proofs.YtbpcnodmgphinaaRv Go.RowKit
set_option linter.unusedVariables false
set_option linter.unusedSimpArgs false


end Go.Proofs.YtbpcnodmgphinaaG
namespace Go.Proofs.YtbpcnodmgphinaaG
open Go Go.Proofs.YtbpcnodmgphinaaRv Go.RowKit
set_option linter.unusedVariables false
set_option linter.unusedSimpArgs false

structure Sl (α : Type) where
  z : Bool
  l : List α
def goodI (n : Int) : Prop := (Lit.int .i64 n).wf = true
def By.good (b : By) : Prop := b.l.length ≤ 9223372036854775807 ∧ ∀ n ∈ b.l, (Lit.int .u8 n).wf = true
def GoodL {α : Type} (g : α → Prop) (l : List α) : Prop := l.length ≤ 9223372036854775807 ∧ ∀ x ∈ l, g x
def Row.good (r : Row) : Prop := goodI r.f0 ∧ By.good ⟨r.z, r.f1⟩
def Tab.good (x : Sl Row) : Prop := GoodL Row.good x.l
def QcV.good (q : QcV) : Prop := goodI q.v ∧ goodI q.h ∧ By.good ⟨q.bz, q.blk⟩ ∧ By.good ⟨q.mz, q.bits⟩ ∧ GoodL By.good q.tags
def Head.good (h : Head) : Prop := goodI h.v ∧ goodI h.h ∧ goodI h.p ∧ By.good ⟨h.az, h.par⟩ ∧ By.good ⟨h.rz, h.root⟩ ∧ h.q.good
def BytesL (l : List By) : Prop := ∀ b ∈ l, bytesOk b.l
def QcV.byt (q : QcV) : Prop := bytesOk q.blk ∧ bytesOk q.bits ∧ BytesL q.tags
def Head.byt (h : Head) : Prop := bytesOk h.par ∧ bytesOk h.root ∧ h.q.byt
structure Vt where
  v : Int
  h : Int
  bz : Bool
  blk : List Int
  who : Int
  tz : Bool
  tag : List Int
instance : Inhabited Vt := ⟨⟨0, 0, false, [], 0, false, []⟩⟩
def Vt.t (x : Vt) : T := .agg [.int .i64 x.v, .int .i64 x.h, .nums 5 .u8 x.bz x.blk, .int .i64 x.who, .nums 5 .u8 x.tz x.tag]
theorem vt_at {l : List Vt} {i : Nat} (h : i < l.length) : (l.map Vt.t).getD i .bad = (l[i]).t := by simp [List.getD_eq_getElem?_getD, h]
theorem Vt.c0 (x : Vt) : (x.t.cells.getD 0 .bad).toInt = x.v := rfl
theorem Vt.c1 (x : Vt) : (x.t.cells.getD 1 .bad).toInt = x.h := rfl
theorem Vt.c2z (x : Vt) : (x.t.cells.getD 2 .bad).isNil = x.bz := rfl
theorem Vt.c2 (x : Vt) : (x.t.cells.getD 2 .bad).toNums = x.blk := rfl
theorem Vt.c3 (x : Vt) : (x.t.cells.getD 3 .bad).toInt = x.who := rfl
theorem Vt.c4z (x : Vt) : (x.t.cells.getD 4 .bad).isNil = x.tz := rfl
theorem Vt.c4 (x : Vt) : (x.t.cells.getD 4 .bad).toNums = x.tag := rfl
def Vt.good (x : Vt) : Prop := goodI x.v ∧ goodI x.h ∧ By.good ⟨x.bz, x.blk⟩ ∧ goodI x.who ∧ By.good ⟨x.tz, x.tag⟩
structure En where
  who : Int
  high : Int
  tz : Bool
  tag : List Int
instance : Inhabited En := ⟨⟨0, 0, false, []⟩⟩
def En.t (x : En) : T := .agg [.int .i64 x.who, .int .i64 x.high, .nums 5 .u8 x.tz x.tag]
theorem En.c0 (x : En) : (x.t.cells.getD 0 .bad).toInt = x.who := rfl
theorem En.c1 (x : En) : (x.t.cells.getD 1 .bad).toInt = x.high := rfl
theorem En.c2 (x : En) : (x.t.cells.getD 2 .bad).toNums = x.tag := rfl
def En.good (x : En) : Prop := goodI x.who ∧ goodI x.high ∧ By.good ⟨x.tz, x.tag⟩
structure Lm where
  l0 : Int
  l1 : Int
  l2 : Int
  l3 : Int
  l4 : Int
def Lm.good (x : Lm) : Prop := goodI x.l0 ∧ goodI x.l1 ∧ goodI x.l2 ∧ goodI x.l3 ∧ goodI x.l4
structure TcV where
  v : Int
  ez : Bool
  ents : List En
def TcV.good (x : TcV) : Prop := goodI x.v ∧ GoodL En.good x.ents
structure Ps where
  skip : Int
  z : Bool
  buf : List Int
def Ps.good (x : Ps) : Prop := goodI x.skip ∧ By.good ⟨x.z, x.buf⟩
def Light.good (x : Light) : Prop := Lm.good ⟨x.l0, x.l1, x.l2, x.l3, x.l4⟩ ∧ GoodL Row.good x.rows ∧ Ps.good ⟨x.skip, x.bz, x.buf⟩ ∧ GoodL Head.good x.chain
structure Fo where
  l0 : Int
  l1 : Int
  l2 : Int
  l3 : Int
  l4 : Int
  hz : Bool
  heads : List Head
def Fo.good (x : Fo) : Prop := Lm.good ⟨x.l0, x.l1, x.l2, x.l3, x.l4⟩ ∧ GoodL Head.good x.heads
structure Pf where
  hz : Bool
  heads : List Head
  q : QcV
def Pf.good (x : Pf) : Prop := GoodL Head.good x.heads ∧ x.q.good
end Go.Proofs.YtbpcnodmgphinaaG
namespace Go.Proofs.YtbpcnodmgphinaaG
open Go Go.Proofs.YtbpcnodmgphinaaRv Go.RowKit
set_option linter.unusedVariables false
set_option linter.unusedSimpArgs false

theorem tdiv_nat (n m : Nat) : Int.tdiv (n : Int) (m : Int) = ((n / m : Nat) : Int) := by
  rw [Int.tdiv_eq_ediv_of_nonneg (by omega)]
  exact (Int.natCast_ediv n m).symm
theorem tmod_nat (n m : Nat) : Int.tmod (n : Int) (m : Int) = ((n % m : Nat) : Int) := by
  rw [Int.tmod_eq_emod_of_nonneg (by omega)]
  exact (Int.natCast_emod n m).symm
theorem w64n {n : Nat} (h : n ≤ 9223372036854775807) : wrap64 (n : Int) = (n : Int) := w64 (by omega) (by omega)

def bitAt (b : List Int) (i : Nat) : Bool := rdI b ((i / 8 : Nat) : Int) / 2 ^ (i % 8) % 2 == 1
theorem bitAt_out {b : List Int} {i : Nat} (h : 8 * b.length ≤ i) : bitAt b i = false := by
  have : b.length ≤ i / 8 := by omega
  have e : rdI b ((i / 8 : Nat) : Int) = 0 := by
    unfold rdI
    rw [toNat_nat, List.getD_eq_getElem?_getD, List.getElem?_eq_none this]
    rfl
  unfold bitAt
  rw [e]
  simp
theorem rd_nice {l : List Int} (h : niceB l) (i : Int) : 0 ≤ rdI l i ∧ rdI l i < 256 := by
  unfold rdI
  rw [List.getD_eq_getElem?_getD]
  cases e : l[i.toNat]? with
  | none => simp
  | some x => exact h.2 x (List.mem_of_getElem? e)
theorem u8_and1 {x : Int} (h0 : 0 ≤ x) (h1 : x < 256) : Go.bits .and .u8 x 1 = x % 2 := bits_mask .u8 8 (by decide) wraps_u8 1 (by decide) x h0 h1
theorem div_pow_bd {x : Int} (h0 : 0 ≤ x) (h1 : x < 256) (m : Nat) : 0 ≤ x / 2 ^ m ∧ x / 2 ^ m < 256 := by
  have hp : (0 : Int) < 2 ^ m := Int.pow_pos (by decide)
  refine ⟨Int.ediv_nonneg h0 (Int.le_of_lt hp), ?_⟩
  have := Int.ediv_le_self (2 ^ m) h0
  omega

def bitsFrom (b : List Int) : Nat → Nat → List Nat
  | _, 0 => []
  | i, m + 1 => if bitAt b i = true then i :: bitsFrom b (i + 1) m else bitsFrom b (i + 1) m

def bitsList (b : List Int) : List Int := (bitsFrom b 0 (8 * b.length)).map fun (n : Nat) => (n : Int)
theorem bitsFrom_bd (b : List Int) : ∀ (m i : Nat) (x : Nat), x ∈ bitsFrom b i m → i ≤ x ∧ x < i + m
  | 0, i, x, h => by simp [bitsFrom] at h
  | m + 1, i, x, h => by
    unfold bitsFrom at h
    split at h
    · rcases List.mem_cons.1 h with rfl | h
      · omega
      · have := bitsFrom_bd b m (i + 1) x h
        omega
    · have := bitsFrom_bd b m (i + 1) x h
      omega
theorem bitsFrom_mem (b : List Int) : ∀ (m i : Nat) (x : Nat), x ∈ bitsFrom b i m ↔ (i ≤ x ∧ x < i + m) ∧ bitAt b x = true
  | 0, i, x => by simp [bitsFrom]; omega
  | m + 1, i, x => by
    have ih := bitsFrom_mem b m (i + 1) x
    unfold bitsFrom
    split
    · rename_i h
      rw [List.mem_cons, ih]
      constructor
      · rintro (rfl | ⟨h1, h2⟩)
        · exact ⟨by omega, h⟩
        · exact ⟨by omega, h2⟩
      · rintro ⟨h1, h2⟩
        by_cases e : x = i
        · exact Or.inl e
        · exact Or.inr ⟨by omega, h2⟩
    · rename_i h
      rw [ih]
      constructor
      · rintro ⟨h1, h2⟩
        exact ⟨by omega, h2⟩
      · rintro ⟨h1, h2⟩
        have : x ≠ i := by rintro rfl; exact h h2
        exact ⟨by omega, h2⟩
theorem bitsFrom_length (b : List Int) : ∀ (m i : Nat), (bitsFrom b i m).length ≤ m
  | 0, i => by simp [bitsFrom]
  | m + 1, i => by
    have := bitsFrom_length b m (i + 1)
    unfold bitsFrom
    split
    · simp only [List.length_cons]; omega
    · omega
theorem bitsList_length (b : List Int) : (bitsList b).length ≤ 8 * b.length := by
  unfold bitsList
  rw [List.length_map]
  exact bitsFrom_length b _ _
theorem bitsList_bd {b : List Int} {x : Int} (h : x ∈ bitsList b) : ∃ n : Nat, x = n ∧ n < 8 * b.length ∧ bitAt b n = true := by
  unfold bitsList at h
  obtain ⟨n, hn, rfl⟩ := List.mem_map.1 h
  have := (bitsFrom_mem b _ _ n).1 hn
  exact ⟨n, rfl, by omega, this.2⟩
theorem mem_bitsList {b : List Int} (n : Nat) : (n : Int) ∈ bitsList b ↔ n < 8 * b.length ∧ bitAt b n = true := by
  unfold bitsList
  rw [List.mem_map]
  constructor
  · rintro ⟨m, hm, e⟩
    have := (bitsFrom_mem b _ _ m).1 hm
    have e' : m = n := by omega
    subst e'
    exact ⟨by omega, this.2⟩
  · rintro ⟨h1, h2⟩
    exact ⟨n, (bitsFrom_mem b _ _ n).2 ⟨by omega, h2⟩, rfl⟩
def bitsSize (n : Int) : Int := if n < 1 then 0 else (n - 1) / 8 + 1

def bitsOk (b : List Int) (n : Int) : Bool := decide (1 ≤ n ∧ n ≤ 10) && (decide ((b.length : Int) = bitsSize n) && (bitsList b).all fun i => decide (i < n))
theorem bitsOk_iff {b : List Int} {n : Int} : bitsOk b n = true ↔ (1 ≤ n ∧ n ≤ 10) ∧ (b.length : Int) = bitsSize n ∧ ∀ i ∈ bitsList b, i < n := by
  simp [bitsOk, and_assoc]
theorem bitsOk_len {b : List Int} {n : Int} (h : bitsOk b n = true) : b.length ≤ 2 := by
  obtain ⟨h1, h2, _⟩ := bitsOk_iff.1 h
  unfold bitsSize at h2
  split at h2 <;> omega
theorem bitsOk_bit {b : List Int} {n : Int} (h : bitsOk b n = true) {i : Nat} (hi : n ≤ i) : bitAt b i = false := by
  obtain ⟨h1, h2, h3⟩ := bitsOk_iff.1 h
  by_cases c : i < 8 * b.length
  · cases e : bitAt b i with
    | false => rfl
    | true =>
      have := h3 i ((mem_bitsList i).2 ⟨c, e⟩)
      omega
  · exact bitAt_out (by omega)

theorem bitsFrom_last (b : List Int) : ∀ (m i : Nat) (h : bitsFrom b i m ≠ []), ∀ x ∈ bitsFrom b i m, x ≤ (bitsFrom b i m).getLast h
  | 0, i, h, x, hx => by simp [bitsFrom] at hx
  | m + 1, i, h, x, hx => by
    by_cases c : bitAt b i = true
    · have e : bitsFrom b i (m + 1) = i :: bitsFrom b (i + 1) m := by rw [bitsFrom, if_pos c]
      by_cases n : bitsFrom b (i + 1) m = []
      · have : bitsFrom b i (m + 1) = [i] := by rw [e, n]
        simp only [this, List.mem_singleton] at hx
        simp only [this, List.getLast_singleton]
        omega
      · have l : (bitsFrom b i (m + 1)).getLast h = (bitsFrom b (i + 1) m).getLast n := by simp only [e, List.getLast_cons n]
        rw [l]
        rw [e] at hx
        rcases List.mem_cons.1 hx with rfl | hx
        · have := bitsFrom_bd b m (x + 1) _ (List.getLast_mem n)
          omega
        · exact bitsFrom_last b m (i + 1) n x hx
    · have e : bitsFrom b i (m + 1) = bitsFrom b (i + 1) m := by rw [bitsFrom, if_neg c]
      have n : bitsFrom b (i + 1) m ≠ [] := by rw [← e]; exact h
      have l : (bitsFrom b i (m + 1)).getLast h = (bitsFrom b (i + 1) m).getLast n := by simp only [e]
      rw [l]
      rw [e] at hx
      exact bitsFrom_last b m (i + 1) n x hx
theorem bitsList_last (b : List Int) (h : bitsList b ≠ []) : ∀ x ∈ bitsList b, x ≤ (bitsList b).getLast h := by
  intro x hx
  have h' : bitsFrom b 0 (8 * b.length) ≠ [] := by intro e; apply h; simp [bitsList, e]
  have l : (bitsList b).getLast h = (((bitsFrom b 0 (8 * b.length)).getLast h' : Nat) : Int) := by simp only [bitsList, List.getLast_map]
  unfold bitsList at hx
  obtain ⟨n, hn, rfl⟩ := List.mem_map.1 hx
  have := bitsFrom_last b _ _ h' n hn
  rw [l]
  omega
theorem all_lt_last (b : List Int) (n : Int) : ((bitsList b).all fun i => decide (i < n)) = (if h : bitsList b = [] then true else decide ((bitsList b).getLast h < n)) := by
  split
  · rename_i h
    rw [h]
    rfl
  · rename_i h
    rw [Bool.eq_iff_iff, List.all_eq_true]
    simp only [decide_eq_true_eq]
    exact ⟨fun g => g _ (List.getLast_mem h), fun g x hx => by have := bitsList_last b h x hx; omega⟩

theorem bits_u8_bd (op : BinOp) (x y : Int) : 0 ≤ Go.bits op .u8 x y ∧ Go.bits op .u8 x y < 256 := by
  unfold Go.bits
  rw [IntKind.wrap_u8]
  omega
theorem ofInt_nice {x : Int} (h0 : 0 ≤ x) (h1 : x < 256) : (BitVec.ofInt 8 x).toNat = x.toNat := by
  rw [BitVec.toNat_ofInt]
  have : x % ((2 ^ 8 : Nat) : Int) = x := Int.emod_eq_of_lt h0 (by omega)
  rw [this]
def bitOp : BinOp → Bool → Bool → Bool
  | .and, p, q => p && q
  | .or, p, q => p || q
  | .xor, p, q => p ^^ q
  | _, p, q => p && !q
theorem bits_test {op : BinOp} {x y : Int} (hx : 0 ≤ x ∧ x < 256) (hy : 0 ≤ y ∧ y < 256) {m : Nat} (hm : m < 8) : (Go.bits op .u8 x y).toNat.testBit m = bitOp op (x.toNat.testBit m) (y.toNat.testBit m) := by
  have e : ∀ v : BitVec 8, (IntKind.u8.wrap (v.toNat : Int)).toNat = v.toNat := by
    intro v
    have := v.isLt
    rw [IntKind.wrap_u8]
    omega
  have ex : x.toNat.testBit m = (BitVec.ofInt 8 x).getLsbD m := by rw [← ofInt_nice hx.1 hx.2]; rfl
  have ey : y.toNat.testBit m = (BitVec.ofInt 8 y).getLsbD m := by rw [← ofInt_nice hy.1 hy.2]; rfl
  rw [ex, ey]
  unfold Go.bits
  show ((IntKind.u8.wrap ((match op with | .and => BitVec.ofInt 8 x &&& BitVec.ofInt 8 y | .or => BitVec.ofInt 8 x ||| BitVec.ofInt 8 y | .xor => BitVec.ofInt 8 x ^^^ BitVec.ofInt 8 y | _ => BitVec.ofInt 8 x &&& ~~~(BitVec.ofInt 8 y)).toNat : Int)).toNat).testBit m = _
  rw [e, BitVec.testBit_toNat]
  cases op <;> simp [bitOp, hm]
theorem bitAt_test {b : List Int} (h : niceB b) (i : Nat) : bitAt b i = (rdI b ((i / 8 : Nat) : Int)).toNat.testBit (i % 8) := by
  have q := rd_nice h ((i / 8 : Nat) : Int)
  unfold bitAt
  rw [Nat.testBit_eq_decide_div_mod_eq]
  obtain ⟨n, hn⟩ := Int.eq_ofNat_of_zero_le q.1
  rw [hn]
  have : ((n : Int) / 2 ^ (i % 8)) % 2 = ((n / 2 ^ (i % 8) % 2 : Nat) : Int) := by
    rw [Int.natCast_emod, Int.natCast_ediv, Int.natCast_pow]
    rfl
  rw [this, toNat_nat]
  by_cases c : n / 2 ^ (i % 8) % 2 = 1
  · rw [c]; rfl
  · rw [decide_eq_false c]
    have : n / 2 ^ (i % 8) % 2 = 0 := by omega
    rw [this]; rfl
theorem pow_test {m j : Nat} (h : m < 8) : ((2 : Int) ^ m).toNat.testBit j = decide (j = m) := by
  have : ((2 : Int) ^ m).toNat = 2 ^ m := by
    have : (2 : Int) ^ m = ((2 ^ m : Nat) : Int) := by rw [Int.natCast_pow]; rfl
    rw [this, toNat_nat]
  rw [this, Nat.testBit_two_pow]
  by_cases c : m = j
  · simp [c]
  · rw [decide_eq_false c, decide_eq_false (fun h => c h.symm)]
theorem pow_bd {m : Nat} (h : m < 8) : (0 : Int) ≤ 2 ^ m ∧ (2 : Int) ^ m < 256 := by
  match m, h with
  | 0, _ => decide
  | 1, _ => decide
  | 2, _ => decide
  | 3, _ => decide
  | 4, _ => decide
  | 5, _ => decide
  | 6, _ => decide
  | 7, _ => decide

def bitSet (op : BinOp) (b : List Int) (i : Nat) : List Int := b.set (i / 8) (Go.bits op .u8 (rdI b ((i / 8 : Nat) : Int)) (2 ^ (i % 8)))
theorem bitSet_nice {op : BinOp} {b : List Int} (h : niceB b) (i : Nat) : niceB (bitSet op b i) := by
  unfold bitSet
  refine ⟨by rw [List.length_set]; exact h.1, fun x hx => ?_⟩
  rcases List.mem_or_eq_of_mem_set hx with hx | rfl
  · exact h.2 x hx
  · exact bits_u8_bd _ _ _
theorem bitSet_length (op : BinOp) (b : List Int) (i : Nat) : (bitSet op b i).length = b.length := by simp [bitSet]
theorem bitSet_bit {op : BinOp} {b : List Int} (h : niceB b) {i : Nat} (hi : i < 8 * b.length) (hop : ∀ p, bitOp op p false = p) (j : Nat) : bitAt (bitSet op b i) j = if j = i then bitOp op (bitAt b j) true else bitAt b j := by
  have hk : i / 8 < b.length := by omega
  rw [bitAt_test (bitSet_nice h i), bitAt_test h]
  by_cases c : j / 8 = i / 8
  · have e : rdI (bitSet op b i) ((j / 8 : Nat) : Int) = Go.bits op .u8 (rdI b ((i / 8 : Nat) : Int)) (2 ^ (i % 8)) := by
      rw [c, rd_nat (by rw [bitSet_length]; exact hk)]
      simp [bitSet]
    rw [e, bits_test (rd_nice h _) (pow_bd (by omega)) (by omega), pow_test (by omega), c]
    by_cases d : j = i
    · subst d; simp
    · rw [if_neg d, decide_eq_false (by omega), hop]
  · have e : rdI (bitSet op b i) ((j / 8 : Nat) : Int) = rdI b ((j / 8 : Nat) : Int) := by
      unfold rdI bitSet
      rw [List.getD_eq_getElem?_getD, List.getD_eq_getElem?_getD, toNat_nat, List.getElem?_set_ne (fun x => c x.symm)]
    rw [e, if_neg (by rintro rfl; exact c rfl)]


theorem and255 (x : Int) : 0 ≤ Go.bits .and .i64 x 255 ∧ Go.bits .and .i64 x 255 ≤ 255 := by
  have h : (BitVec.ofInt 64 x &&& BitVec.ofInt 64 255).toNat ≤ 255 := by
    rw [BitVec.toNat_and]
    exact Nat.le_trans Nat.and_le_right (by decide)
  have e : Go.bits .and .i64 x 255 = ((BitVec.ofInt 64 x &&& BitVec.ofInt 64 255).toNat : Int) := by
    show IntKind.i64.wrap ((BitVec.ofInt 64 x &&& BitVec.ofInt 64 255).toNat : Int) = _
    rw [IntKind.wrap_i64]
    omega
  rw [e]
  omega
theorem bitAt_zero (m j : Nat) : bitAt (List.replicate m 0) j = false := by
  have e : rdI (List.replicate m 0) ((j / 8 : Nat) : Int) = 0 := by
    unfold rdI
    rw [toNat_nat, List.getD_eq_getElem?_getD, List.getElem?_replicate]
    split <;> rfl
  unfold bitAt
  rw [e]
  simp
theorem bitsOk_of {b : List Int} {n : Nat} (h1 : 1 ≤ n) (h2 : n ≤ 10) (hl : (b.length : Int) = bitsSize (n : Int)) (h : ∀ j, bitAt b j = true → j < n) : bitsOk b (n : Int) = true := by
  refine bitsOk_iff.2 ⟨by omega, hl, fun i hi => ?_⟩
  obtain ⟨m, rfl, _, hm⟩ := bitsList_bd hi
  have := h m hm
  omega
theorem bitsOk_lt {b : List Int} {n : Nat} (h : bitsOk b (n : Int) = true) {j : Nat} (hj : bitAt b j = true) : j < n := by
  by_cases c : j < n
  · exact c
  · rw [bitsOk_bit h (by omega)] at hj
    cases hj
theorem sorted_ext : ∀ {a b : List Nat}, a.Pairwise (· < ·) → b.Pairwise (· < ·) → (∀ x, x ∈ a ↔ x ∈ b) → a = b
  | [], [], _, _, _ => rfl
  | [], y :: b, _, _, h => by have := (h y).2 (by simp); simp at this
  | x :: a, [], _, _, h => by have := (h x).1 (by simp); simp at this
  | x :: a, y :: b, ha, hb, h => by
    rw [List.pairwise_cons] at ha hb
    have e : x = y := by
      rcases List.mem_cons.1 ((h x).1 (by simp)) with e | e
      · exact e
      · rcases List.mem_cons.1 ((h y).2 (by simp)) with e' | e'
        · exact e'.symm
        · have h1 := hb.1 x e
          have h2 := ha.1 y e'
          omega
    subst e
    congr 1
    refine sorted_ext ha.2 hb.2 (fun z => ⟨fun hz => ?_, fun hz => ?_⟩)
    · have h1 := ha.1 z hz
      rcases List.mem_cons.1 ((h z).1 (by simp [hz])) with e | e
      · omega
      · exact e
    · have h1 := hb.1 z hz
      rcases List.mem_cons.1 ((h z).2 (by simp [hz])) with e | e
      · omega
      · exact e
theorem bitsFrom_sorted (b : List Int) : ∀ (m i : Nat), (bitsFrom b i m).Pairwise (· < ·)
  | 0, i => List.Pairwise.nil
  | m + 1, i => by
    unfold bitsFrom
    split
    · rw [List.pairwise_cons]
      exact ⟨fun x hx => by have := bitsFrom_bd b m (i + 1) x hx; omega, bitsFrom_sorted b m (i + 1)⟩
    · exact bitsFrom_sorted b m (i + 1)
def setAll (b : List Int) (own : List Nat) : List Int := own.foldl (fun b i => bitSet .or b i) b
theorem setAll_spec : ∀ (own : List Nat) (b : List Int), niceB b → (∀ i ∈ own, i < 8 * b.length) → niceB (setAll b own) ∧ (setAll b own).length = b.length ∧ ∀ j, bitAt (setAll b own) j = (bitAt b j || decide (j ∈ own))
  | [], b, hb, _ => ⟨hb, rfl, fun j => by simp [setAll]⟩
  | i :: t, b, hb, h => by
    have hi := h i (by simp)
    obtain ⟨h1, h2, h3⟩ := setAll_spec t (bitSet .or b i) (bitSet_nice hb i) (fun x hx => by rw [bitSet_length]; exact h x (by simp [hx]))
    refine ⟨h1, by rw [← bitSet_length .or b i]; exact h2, fun j => ?_⟩
    have e : setAll b (i :: t) = setAll (bitSet .or b i) t := rfl
    rw [e, h3, bitSet_bit hb hi (by intro p; simp [bitOp])]
    by_cases c : j = i
    · subst c; simp [bitOp]
    · simp [c]
def bitsOf (n : Nat) (own : List Nat) : List Int := setAll (List.replicate (bitsSize (n : Int)).toNat 0) own
theorem bitsSize_bd {n : Nat} (h1 : 1 ≤ n) (h2 : n ≤ 10) : 1 ≤ bitsSize (n : Int) ∧ bitsSize (n : Int) ≤ 2 ∧ (n : Int) ≤ 8 * bitsSize (n : Int) := by
  unfold bitsSize
  rw [if_neg (by omega)]
  omega
theorem zeros_nice (m : Nat) (h : m ≤ 1048576) : niceB (List.replicate m 0) := ⟨by rw [List.length_replicate]; exact h, fun x hx => by rw [List.eq_of_mem_replicate hx]; omega⟩
theorem bitsOf_spec {n : Nat} (h1 : 1 ≤ n) (h2 : n ≤ 10) {own : List Nat} (h : ∀ i ∈ own, i < n) : niceB (bitsOf n own) ∧ ((bitsOf n own).length : Int) = bitsSize (n : Int) ∧ bitsOk (bitsOf n own) (n : Int) = true ∧ ∀ j, bitAt (bitsOf n own) j = decide (j ∈ own) := by
  have z := bitsSize_bd h1 h2
  obtain ⟨q1, q2, q3⟩ := setAll_spec own (List.replicate (bitsSize (n : Int)).toNat 0) (zeros_nice _ (by omega)) (fun i hi => by have := h i hi; rw [List.length_replicate]; omega)
  rw [List.length_replicate] at q2
  have q4 : ∀ j, bitAt (bitsOf n own) j = decide (j ∈ own) := fun j => by
    show bitAt (setAll _ own) j = _
    rw [q3, bitAt_zero, Bool.false_or]
  refine ⟨q1, by unfold bitsOf; omega, bitsOk_of h1 h2 (by unfold bitsOf; omega) (fun j hj => ?_), q4⟩
  rw [q4] at hj
  exact h j (of_decide_eq_true hj)
theorem bitsFrom_of {n : Nat} (h1 : 1 ≤ n) (h2 : n ≤ 10) {own : List Nat} (h : ∀ i ∈ own, i < n) (hs : own.Pairwise (· < ·)) : bitsFrom (bitsOf n own) 0 (8 * (bitsOf n own).length) = own := by
  have z := bitsSize_bd h1 h2
  obtain ⟨_, q2, _, q4⟩ := bitsOf_spec h1 h2 h
  refine sorted_ext (bitsFrom_sorted _ _ _) hs (fun x => ?_)
  rw [bitsFrom_mem, q4]
  constructor
  · rintro ⟨_, e⟩
    exact of_decide_eq_true e
  · intro hx
    have := h x hx
    exact ⟨⟨by omega, by omega⟩, decide_eq_true hx⟩

def bitCount (b : List Int) : Nat := (bitsFrom b 0 (8 * b.length)).length
def pop8 (n : Nat) : Nat := ((List.range 8).filter fun j => n.testBit j).length
theorem bitsFrom_count (b : List Int) : ∀ (m i : Nat), (bitsFrom b i m).length = ((List.range m).filter fun j => bitAt b (i + j)).length
  | 0, i => rfl
  | m + 1, i => by
    have ih := bitsFrom_count b m (i + 1)
    have e : ((List.range m).map (fun j => j + 1)).filter (fun j => bitAt b (i + j)) = ((List.range m).filter fun j => bitAt b (i + 1 + j)).map (fun j => j + 1) := by
      rw [List.filter_map]
      congr 1
      apply List.filter_congr
      intro x _
      show bitAt b (i + (x + 1)) = _
      congr 1
      omega
    rw [List.range_succ_eq_map]
    unfold bitsFrom
    show _ = (List.filter _ (0 :: (List.range m).map (fun j => j + 1))).length
    rw [List.filter_cons, e, Nat.add_zero]
    cases c : bitAt b i <;> simp [ih]
theorem bitsFrom_split (b : List Int) : ∀ (m i d : Nat), bitsFrom b i (m + d) = bitsFrom b i m ++ bitsFrom b (i + m) d
  | 0, i, d => by rw [Nat.zero_add]; rfl
  | m + 1, i, d => by
    have ih := bitsFrom_split b m (i + 1) d
    rw [show m + 1 + d = (m + d) + 1 by omega, show i + (m + 1) = i + 1 + m by omega]
    have e1 : bitsFrom b i ((m + d) + 1) = if bitAt b i = true then i :: bitsFrom b (i + 1) (m + d) else bitsFrom b (i + 1) (m + d) := rfl
    have e2 : bitsFrom b i (m + 1) = if bitAt b i = true then i :: bitsFrom b (i + 1) m else bitsFrom b (i + 1) m := rfl
    rw [e1, e2, ih]
    cases bitAt b i <;> simp
theorem pop_byte {b : List Int} (h : niceB b) {i : Nat} (hi : i < b.length) : (bitsFrom b (8 * i) 8).length = pop8 (b[i]).toNat := by
  rw [bitsFrom_count]
  unfold pop8
  congr 1
  apply List.filter_congr
  intro j hj
  have hj := List.mem_range.1 hj
  rw [bitAt_test h, show (8 * i + j) / 8 = i by omega, show (8 * i + j) % 8 = j by omega, rd_nat hi]


def total : List Row → Int
  | [] => 0
  | r :: t => r.f0 + total t

def wsum (b : List Int) : Nat → List Row → Int
  | _, [] => 0
  | i, r :: t => (if bitAt b i = true then r.f0 else 0) + wsum b (i + 1) t
def totalOf (l : List Row) : Int := if tabOk l = true then total l else 0
def weightOf (l : List Row) (b : List Int) : Int := if tabOk l = true ∧ bitsOk b (l.length : Int) = true then wsum b 0 l else 0
theorem total_bd {l : List Row} (h : ∀ r ∈ l, 1 ≤ r.f0 ∧ r.f0 ≤ 1099511627776) : 0 ≤ total l ∧ total l ≤ l.length * 1099511627776 := by
  induction l with
  | nil => simp [total]
  | cons r t ih =>
    have h0 := h r (by simp)
    have := ih (fun x hx => h x (by simp [hx]))
    simp only [total, List.length_cons]
    omega
theorem wsum_bd {b : List Int} {l : List Row} (h : ∀ r ∈ l, 1 ≤ r.f0 ∧ r.f0 ≤ 1099511627776) : ∀ i, 0 ≤ wsum b i l ∧ wsum b i l ≤ total l := by
  induction l with
  | nil => intro i; simp [wsum, total]
  | cons r t ih =>
    intro i
    have h0 := h r (by simp)
    have := ih (fun x hx => h x (by simp [hx])) (i + 1)
    simp only [total, wsum]
    split <;> omega

def isum (l : List Row) : List Nat → Int
  | [] => 0
  | i :: t => (l.getD i default).f0 + isum l t
theorem isum_bits (b : List Int) (l : List Row) : ∀ (m i : Nat), (∀ j, l.length ≤ j → bitAt b j = false) → l.length ≤ i + m → isum l (bitsFrom b i m) = wsum b i (l.drop i)
  | 0, i, h, hm => by rw [List.drop_of_length_le (by omega)]; rfl
  | m + 1, i, h, hm => by
    have ih := isum_bits b l m (i + 1) h (by omega)
    by_cases c : i < l.length
    · rw [List.drop_eq_getElem_cons c]
      unfold bitsFrom wsum
      split
      · simp [isum, ih, c]
      · simp [ih]
    · have z := h i (by omega)
      unfold bitsFrom
      rw [List.drop_of_length_le (by omega)] at ih ⊢
      rw [if_neg (by rw [z]; simp), ih]
      rfl
theorem totalOf_bd (l : List Row) : 0 ≤ totalOf l ∧ totalOf l ≤ 10995116277760 := by
  unfold totalOf
  split
  · rename_i h
    obtain ⟨h1, _, h2⟩ := tabOk_iff.1 h
    have := total_bd (fun r hr => (h1 r hr).1)
    omega
  · omega
theorem weightOf_bd (l : List Row) (b : List Int) : 0 ≤ weightOf l b ∧ weightOf l b ≤ totalOf l := by
  have := totalOf_bd l
  unfold weightOf
  split
  · rename_i h
    obtain ⟨h1, _, h2⟩ := tabOk_iff.1 h.1
    have := wsum_bd (b := b) (fun r hr => (h1 r hr).1) 0
    unfold totalOf
    rw [if_pos h.1]
    exact this
  · omega
def isQuorum (l : List Row) (b : List Int) : Bool := tabOk l && decide (3 * weightOf l b > 2 * totalOf l)
theorem wsum_full {b : List Int} (l : List Row) : ∀ i, (∀ j, j < i + l.length → bitAt b j = true) → wsum b i l = total l := by
  induction l with
  | nil => intro i _; rfl
  | cons r t ih =>
    intro i h
    have := ih (i + 1) (fun j hj => h j (by simp only [List.length_cons]; omega))
    simp only [wsum, total]
    rw [if_pos (h i (by simp only [List.length_cons]; omega)), this]
end Go.Proofs.YtbpcnodmgphinaaG
namespace Go.Proofs.YtbpcnodmgphinaaG
open Go Go.Proofs.YtbpcnodmgphinaaRv Go.RowKit
set_option linter.unusedVariables false
set_option linter.unusedSimpArgs false

theorem spec_LimitsOk.ev (a b c d e : Int) : Ev (fun k => spec_LimitsOk.f k a b c d e) (limitsOk a b c d e) := by
  refine ev_step ?_
  simp only [spec_LimitsOk.f, spec_LimitsOk.b]
  refine Ev.bind (spec_l02Signers.ev _) (ev_ite (fun c1 => Ev.bind (spec_l01In.ev _ _ _) (ev_ite (fun c2 => Ev.bind (spec_l01In.ev _ _ _) (ev_ite (fun c3 => Ev.bind (spec_l01In.ev _ _ _) (ev_ite (fun c4 => Ev.bind (spec_l01In.ev _ _ _) (ev_some ?_)) fun c4 => ev_some ?_)) fun c3 => ev_some ?_)) fun c2 => ev_some ?_)) fun c1 => ev_some ?_)
  all_goals (simp_all [limitsOk]; try omega)
theorem impl_LimitsOk.ev (a b c d e : Int) : Ev (fun k => impl_LimitsOk.f k a b c d e) (limitsOk a b c d e) := by
  refine ev_step ?_
  simp only [impl_LimitsOk.f, impl_LimitsOk.b]
  refine Ev.bind (impl_within.ev _ _ _) (ev_ite (fun c1 => Ev.bind (impl_within.ev _ _ _) (ev_ite (fun c2 => Ev.bind (impl_within.ev _ _ _) (ev_ite (fun c3 => Ev.bind (impl_within.ev _ _ _) (ev_ite (fun c4 => Ev.bind (impl_within.ev _ _ _) (ev_some ?_)) fun c4 => ev_some ?_)) fun c3 => ev_some ?_)) fun c2 => ev_some ?_)) fun c1 => ev_some ?_)
  all_goals (simp_all [limitsOk]; try omega)
def belongs (n tx txs fr hd : Int) (l : List Row) : Bool := limitsOk n tx txs fr hd && (tabOk l && decide ((l.length : Int) = n))
theorem impl_belongs.ev (a b c d e : Int) (z : Bool) (l : List Row) (h : l.length ≤ 1048576) : Ev (fun k => impl_belongs.f k a b c d e z (l.map Row.t)) (belongs a b c d e l) := by
  refine ev_step ?_
  simp only [impl_belongs.f, impl_belongs.b, List.length_map]
  unfold belongs
  refine Ev.bind (impl_LimitsOk.ev _ _ _ _ _) (ev_ite (fun c1 => Ev.bind (impl_TableOk.ev _ _ h) (ev_ite (fun c2 => ev_some ?_) fun c2 => ev_some ?_)) fun c1 => ev_some ?_)
  · rw [c1, c2]; rfl
  · simp [c2]
  · simp [c1]
theorem spec_l23Goes.ev (a b c d e : Int) (z : Bool) (l : List Row) (h : l.length ≤ 1048576) : Ev (fun k => spec_l23Goes.f k a b c d e z (l.map Row.t)) (belongs a b c d e l) := by
  refine ev_step ?_
  simp only [spec_l23Goes.f, spec_l23Goes.b, List.length_map]
  unfold belongs
  refine Ev.bind (spec_LimitsOk.ev _ _ _ _ _) (ev_ite (fun c1 => Ev.bind (spec_TableOk.ev _ _ h) (ev_ite (fun c2 => ev_some ?_) fun c2 => ev_some ?_)) fun c1 => ev_some ?_)
  · rw [c1, c2]; simp [eq_comm]
  · simp [c2]
  · simp [c1]
theorem limitsOk_n {a b c d e : Int} (h : limitsOk a b c d e = true) : 1 ≤ a ∧ a ≤ 10 := by simp [limitsOk] at h; omega


theorem spec_BitsSize.ev (n : Int) (h : i64r n) : Ev (fun k => spec_BitsSize.f k n) (bitsSize n) := by
  have h' : -9223372036854775808 ≤ n ∧ n ≤ 9223372036854775807 := h
  refine ev_step ?_
  simp only [spec_BitsSize.f, spec_BitsSize.b]
  unfold bitsSize
  refine ev_ite (fun c => ev_some (by rw [if_pos c])) fun c => ev_some ?_
  rw [if_neg c, w64 (n := n - 1) (by omega) (by omega), Int.tdiv_eq_ediv_of_nonneg (by omega), w64 (n := (n - 1) / 8) (by omega) (by omega), w64 (by omega) (by omega)]
theorem impl_BitsSize.ev (n : Int) (h : i64r n) : Ev (fun k => impl_BitsSize.f k n) (bitsSize n) := by
  have h' : -9223372036854775808 ≤ n ∧ n ≤ 9223372036854775807 := h
  refine ev_step ?_
  simp only [impl_BitsSize.f, impl_BitsSize.b]
  unfold bitsSize
  refine ev_ite (fun c => ev_some (by rw [if_pos c])) fun c => ev_some ?_
  rw [if_neg c, w64 (n := n - 1) (by omega) (by omega), Int.tdiv_eq_ediv_of_nonneg (by omega), w64 (n := (n - 1) / 8) (by omega) (by omega), w64 (by omega) (by omega)]
theorem impl_BitsHas.ev (z : Bool) (b : List Int) (h : niceB b) (i : Nat) (hi : i ≤ 4611686018427387904) : Ev (fun k => impl_BitsHas.f k z b (i : Int)) (bitAt b i) := by
  have hl := h.1
  have e8 : Int.tdiv (i : Int) 8 = ((i / 8 : Nat) : Int) := tdiv_nat i 8
  have m8 : Int.tmod (i : Int) 8 = ((i % 8 : Nat) : Int) := tmod_nat i 8
  refine ev_step ?_
  simp only [impl_BitsHas.f, impl_BitsHas.b]
  rw [w64 (n := 8 * (b.length : Int)) (by omega) (by omega), w64 (n := 8 * (b.length : Int) - 1) (by omega) (by omega), e8, m8, w64n (by omega)]
  refine Ev.bind (impl_within.ev _ _ _) (ev_ite (fun c => ?_) fun c => ?_)
  · have c' : (0 : Int) ≤ (i : Int) ∧ (i : Int) ≤ 8 * (b.length : Int) - 1 := by simpa using c
    refine ev_pos (by omega) (ev_pos (by omega) (ev_pos (by omega) (ev_some ?_)))
    have q := rd_nice h ((i / 8 : Nat) : Int)
    have e : shrI .u8 (rdI b ((i / 8 : Nat) : Int)) ((i % 8 : Nat) : Int) = rdI b ((i / 8 : Nat) : Int) / 2 ^ (i % 8) := by
      unfold shrI
      rw [toNat_nat, Nat.min_eq_left (by show i % 8 ≤ 8; omega)]
    have d := div_pow_bd q.1 q.2 (i % 8)
    rw [e, u8_and1 d.1 d.2]
    unfold bitAt
    rw [Bool.eq_iff_iff]; simp
  · have c' : ¬ ((0 : Int) ≤ (i : Int) ∧ (i : Int) ≤ 8 * (b.length : Int) - 1) := by simpa using c
    exact ev_some (bitAt_out (by omega)).symm
theorem spec_BitsHas.ev (z : Bool) (b : List Int) (h : niceB b) (i : Nat) (hi : i ≤ 4611686018427387904) : Ev (fun k => spec_BitsHas.f k z b (i : Int)) (bitAt b i) := by
  have hl := h.1
  have e8 : Int.tdiv (i : Int) 8 = ((i / 8 : Nat) : Int) := tdiv_nat i 8
  have m8 : Int.tmod (i : Int) 8 = ((i % 8 : Nat) : Int) := tmod_nat i 8
  have q := rd_nice h ((i / 8 : Nat) : Int)
  refine ev_step ?_
  simp only [spec_BitsHas.f, spec_BitsHas.b]
  rw [e8, m8, w64n (by omega), w64 (n := rdI b _) (by omega) (by omega)]
  refine ev_pos (by omega) (ev_ite (fun c => ?_) fun c => ev_some (bitAt_out (by omega)).symm)
  refine ev_pos (by omega) (ev_pos (by omega) (ev_pos (by omega) (ev_some ?_)))
  have e : shrI .i64 (rdI b ((i / 8 : Nat) : Int)) ((i % 8 : Nat) : Int) = rdI b ((i / 8 : Nat) : Int) / 2 ^ (i % 8) := by
    unfold shrI
    rw [toNat_nat, Nat.min_eq_left (by show i % 8 ≤ 64; omega)]
  have d := div_pow_bd q.1 q.2 (i % 8)
  rw [e, Int.tmod_eq_emod_of_nonneg d.1]
  unfold bitAt
  rw [Bool.eq_iff_iff]; simp
theorem impl_BitsList.ev0 (z : Bool) (b : List Int) (h : niceB b) : ∀ (d n : Nat) (acc : List Int), n + d = 8 * b.length → acc.length ≤ n → Ev (fun k => impl_BitsList.l0 k z b acc ((8 * b.length : Nat) : Int) (n : Int)) (false, acc ++ (bitsFrom b n d).map fun (n : Nat) => (n : Int))
  | 0, n, acc, hn, ha => by
    refine ev_step ?_
    simp only [impl_BitsList.l0, impl_BitsList.l0b]
    exact ev_neg (by omega) (ev_some (by simp [bitsFrom]))
  | d + 1, n, acc, hn, ha => by
    have hl := h.1
    refine ev_step ?_
    simp only [impl_BitsList.l0, impl_BitsList.l0b]
    refine ev_pos (by omega) (Ev.bind (impl_BitsHas.ev z b h n (by omega)) ?_)
    rw [w64s (by omega)]
    unfold bitsFrom
    refine ev_ite (fun c => ?_) (fun c => ?_)
    · rw [if_pos c]
      refine ev_pos (by omega) (ev_to (impl_BitsList.ev0 z b h d (n + 1) _ (by omega) (by simp; omega)) ?_)
      simp
    · rw [if_neg c]
      exact impl_BitsList.ev0 z b h d (n + 1) acc (by omega) (by omega)
theorem impl_BitsList.ev (z : Bool) (b : List Int) (h : niceB b) : Ev (fun k => impl_BitsList.f k z b) (false, bitsList b) := by
  have hl := h.1
  refine ev_step ?_
  simp only [impl_BitsList.f, impl_BitsList.b]
  rw [w64 (by omega) (by omega)]
  exact ev_to (impl_BitsList.ev0 z b h (8 * b.length) 0 [] (by omega) (by simp)) (by simp [bitsList])
theorem spec_BitsList.ev0 (z : Bool) (b : List Int) (h : niceB b) : ∀ (d n : Nat) (acc : List Int), n + d = 8 * b.length → acc.length ≤ n → Ev (fun k => spec_BitsList.l0 k z b acc (n : Int)) (false, acc ++ (bitsFrom b n d).map fun (n : Nat) => (n : Int))
  | 0, n, acc, hn, ha => by
    have hl := h.1
    refine ev_step ?_
    simp only [spec_BitsList.l0, spec_BitsList.l0b]
    rw [w64 (n := 8 * (b.length : Int)) (by omega) (by omega)]
    exact ev_neg (by omega) (ev_some (by simp [bitsFrom]))
  | d + 1, n, acc, hn, ha => by
    have hl := h.1
    refine ev_step ?_
    simp only [spec_BitsList.l0, spec_BitsList.l0b]
    rw [w64 (n := 8 * (b.length : Int)) (by omega) (by omega)]
    refine ev_pos (by omega) (Ev.bind (spec_BitsHas.ev z b h n (by omega)) ?_)
    rw [w64s (by omega)]
    unfold bitsFrom
    refine ev_ite (fun c => ?_) (fun c => ?_)
    · rw [if_pos c]
      refine ev_pos (by omega) (ev_to (spec_BitsList.ev0 z b h d (n + 1) _ (by omega) (by simp; omega)) ?_)
      simp
    · rw [if_neg c]
      exact spec_BitsList.ev0 z b h d (n + 1) acc (by omega) (by omega)
theorem spec_BitsList.ev (z : Bool) (b : List Int) (h : niceB b) : Ev (fun k => spec_BitsList.f k z b) (false, bitsList b) := by
  refine ev_step ?_
  simp only [spec_BitsList.f, spec_BitsList.b]
  exact ev_to (spec_BitsList.ev0 z b h (8 * b.length) 0 [] (by omega) (by simp)) (by simp [bitsList])
theorem impl_BitsOk.ev0 (z : Bool) (n : Int) (l : List Int) (hl : l.length ≤ 9223372036854775806) : ∀ (d i : Nat), i + d = l.length → Ev (fun k => impl_BitsOk.l0 k n z l (l.length : Int) (i : Int)) ((l.drop i).all fun x => decide (x < n))
  | 0, i, hi => by
    refine ev_step ?_
    simp only [impl_BitsOk.l0, impl_BitsOk.l0b]
    refine ev_neg (by omega) (ev_some ?_)
    rw [List.drop_of_length_le (by omega)]
    rfl
  | d + 1, i, hi => by
    have hlt : i < l.length := by omega
    refine ev_step ?_
    simp only [impl_BitsOk.l0, impl_BitsOk.l0b]
    refine ev_pos (by omega) (ev_pos (by omega) (ev_pos (by omega) ?_))
    rw [w64s (by omega), rd_nat hlt, List.drop_eq_getElem_cons hlt, List.all_cons]
    refine ev_ite (fun c => ev_some ?_) (fun c => ev_to (impl_BitsOk.ev0 z n l hl d (i + 1) (by omega)) ?_)
    · simp; omega
    · simp; omega
theorem impl_BitsOk.ev (z : Bool) (b : List Int) (n : Int) (h : niceB b) (hn : i64r n) : Ev (fun k => impl_BitsOk.f k z b n) (bitsOk b n) := by
  have hl := h.1
  have hL := bitsList_length b
  refine ev_step ?_
  simp only [impl_BitsOk.f, impl_BitsOk.b]
  unfold bitsOk
  refine Ev.bind (impl_within.ev _ _ _) (ev_ite (fun c => ev_some ?_) fun c => Ev.bind (impl_BitsSize.ev n hn) (ev_ite (fun e => ev_some ?_) fun e => Ev.bind (impl_BitsList.ev z b h) (ev_to (impl_BitsOk.ev0 false n (bitsList b) (by omega) (bitsList b).length 0 (by omega)) ?_)))
  · have : ¬ (1 ≤ n ∧ n ≤ 10) := by simpa using c
    simp [this]
  · have : ¬ (b.length : Int) = bitsSize n := by simpa using e
    simp [this]
  · have c' : 1 ≤ n ∧ n ≤ 10 := by simpa using c
    have e' : (b.length : Int) = bitsSize n := by simpa using e
    simp [c', e']
theorem spec_BitsOk.ev (z : Bool) (b : List Int) (n : Int) (h : niceB b) (hn : i64r n) : Ev (fun k => spec_BitsOk.f k z b n) (bitsOk b n) := by
  have hl := h.1
  have hL := bitsList_length b
  refine ev_step ?_
  simp only [spec_BitsOk.f, spec_BitsOk.b]
  unfold bitsOk
  rw [all_lt_last]
  refine Ev.bind (spec_l02Signers.ev _) (ev_ite (fun c => ev_some ?_) fun c => Ev.bind (spec_BitsSize.ev n hn) (ev_ite (fun e => ev_some ?_) fun e => Ev.bind (spec_BitsList.ev z b h) ?_))
  · have : ¬ (1 ≤ n ∧ n ≤ 10) := by simpa using c
    simp [this]
  · have : ¬ (b.length : Int) = bitsSize n := by simpa using e
    simp [this]
  have c' : 1 ≤ n ∧ n ≤ 10 := by simpa using c
  have e' : (b.length : Int) = bitsSize n := by simpa using e
  refine ev_ite (fun z => ev_some ?_) (fun z => ?_)
  · have z' : (((bitsList b).length : Nat) : Int) = 0 := z
    have : bitsList b = [] := List.length_eq_zero_iff.1 (by omega)
    simp [c', e', this]
  · have z' : ¬ (((bitsList b).length : Nat) : Int) = 0 := z
    have hz : 0 < (bitsList b).length := by omega
    show Ev (fun k => cond (decide ((0 : Int) ≤ wrap64 (((bitsList b).length : Int) - 1))) (cond (decide (wrap64 (((bitsList b).length : Int) - 1) < ((bitsList b).length : Int))) (some (decide (rdI (bitsList b) (wrap64 (((bitsList b).length : Int) - 1)) < n))) none) none) _
    rw [w64p (by omega) hz]
    refine ev_pos (by omega) (ev_pos (by omega) (ev_some ?_))
    rw [rd_nat (by omega)]
    have : bitsList b ≠ [] := by intro x; rw [x] at hz; simp at hz
    simp [c', e', this, List.getLast_eq_getElem]
theorem spec_BitsCount.ev (z : Bool) (b : List Int) (h : niceB b) : Ev (fun k => spec_BitsCount.f k z b) ((bitCount b : Nat) : Int) := by
  refine ev_step ?_
  simp only [spec_BitsCount.f, spec_BitsCount.b]
  exact Ev.bind (spec_BitsList.ev z b h) (ev_some (by simp [bitsList, bitCount]))
theorem bits_OnesCount8.all : ∀ n : Fin 256, bits_OnesCount8.f 1 ((n.val : Nat) : Int) = some ((pop8 n.val : Nat) : Int) := by decide +kernel
theorem bits_OnesCount8.ev {x : Int} (h0 : 0 ≤ x) (h1 : x < 256) : Ev (fun k => bits_OnesCount8.f k x) ((pop8 x.toNat : Nat) : Int) := by
  have := bits_OnesCount8.all ⟨x.toNat, by omega⟩
  have e : ((x.toNat : Nat) : Int) = x := by omega
  simp only [e] at this
  exact ⟨1, fun k hk => by
    obtain ⟨j, rfl⟩ : ∃ j, k = j + 1 := ⟨k - 1, by omega⟩
    exact this⟩
theorem pop8_le (n : Nat) : pop8 n ≤ 8 := by
  unfold pop8
  exact Nat.le_trans (List.length_filter_le _ _) (by simp)
theorem impl_BitsCount.ev0 (z : Bool) (b : List Int) (hb : niceB b) : ∀ (d i : Nat), i + d = b.length → Ev (fun k => impl_BitsCount.l0 k (((bitsFrom b 0 (8 * i)).length : Nat) : Int) z b (b.length : Int) (i : Int)) ((bitCount b : Nat) : Int) := by
  intro d
  have hlen := hb.1
  induction d with
  | zero =>
    intro i hi
    refine ev_step ?_
    simp only [impl_BitsCount.l0, impl_BitsCount.l0b]
    refine ev_neg (by omega) (ev_some ?_)
    unfold bitCount
    rw [show i = b.length by omega]
  | succ d ih =>
    intro i hi
    have hlt : i < b.length := by omega
    have e := ih (i + 1) (by omega)
    have hx := hb.2 _ (List.getElem_mem hlt)
    have q := bitsFrom_length b (8 * i) 0
    have q8 := pop8_le (b[i]).toNat
    have es : (bitsFrom b 0 (8 * (i + 1))).length = (bitsFrom b 0 (8 * i)).length + pop8 (b[i]).toNat := by
      rw [show 8 * (i + 1) = 8 * i + 8 by omega, bitsFrom_split, List.length_append, Nat.zero_add, pop_byte hb hlt]
    rw [es] at e
    refine ev_step ?_
    simp only [impl_BitsCount.l0, impl_BitsCount.l0b]
    refine ev_pos (by omega) (ev_pos (by omega) (ev_pos (by omega) ?_))
    rw [rd_nat hlt]
    refine Ev.bind (bits_OnesCount8.ev hx.1 hx.2) ?_
    rw [w64s (by omega), w64 (by omega) (by omega)]
    exact e
theorem impl_BitsCount.ev (z : Bool) (b : List Int) (hb : niceB b) : Ev (fun k => impl_BitsCount.f k z b) ((bitCount b : Nat) : Int) := by
  refine ev_step ?_
  simp only [impl_BitsCount.f, impl_BitsCount.b]
  exact impl_BitsCount.ev0 z b hb b.length 0 (by omega)


theorem impl_WeightOf.ev0 (y z : Bool) (l : List Row) (h : tabOk l = true) (x : List Nat) (hx : ∀ i ∈ x, i < l.length) (hxl : x.length ≤ 16) : ∀ (d n : Nat) (acc : Int), n + d = x.length → 0 ≤ acc → acc ≤ n * 1099511627776 → Ev (fun k => impl_WeightOf.l0 k acc y (x.map fun (i : Nat) => (i : Int)) (x.length : Int) (n : Int) z (l.map Row.t)) (acc + isum l (x.drop n)) := by
  intro d
  induction d with
  | zero =>
    intro n acc hn h0 h1
    refine ev_step ?_
    simp only [impl_WeightOf.l0, impl_WeightOf.l0b]
    refine ev_neg (by omega) (ev_some ?_)
    rw [List.drop_of_length_le (by omega)]
    simp [isum]
  | succ d ih =>
    intro n acc hn h0 h1
    obtain ⟨hr, _, hl⟩ := tabOk_iff.1 h
    have hlt : n < x.length := by omega
    have hi := hx _ (List.getElem_mem hlt)
    have e0 : rdI (x.map fun (i : Nat) => (i : Int)) (n : Int) = (x[n] : Int) := by rw [rd_nat (by simpa using hlt), List.getElem_map]
    have bd := (hr _ (List.getElem_mem hi)).1
    refine ev_step ?_
    simp only [impl_WeightOf.l0, impl_WeightOf.l0b, e0, List.length_map, Int.toNat_natCast, row_at hi, Row.c0]
    refine ev_pos (by omega) (ev_pos (by omega) (ev_pos (by omega) (ev_pos (by omega) (ev_pos (by omega) ?_))))
    rw [w64s (by omega), w64 (by omega) (by omega)]
    refine ev_to (ih (n + 1) _ (by omega) (by omega) (by omega)) ?_
    rw [List.drop_eq_getElem_cons hlt, isum]
    simp [hi]
    omega
theorem impl_WeightOf.ev (y z : Bool) (l : List Row) (b : List Int) (h : l.length ≤ 1048576) (hb : niceB b) : Ev (fun k => impl_WeightOf.f k z (l.map Row.t) y b) (weightOf l b) := by
  refine ev_step ?_
  simp only [impl_WeightOf.f, impl_WeightOf.b, List.length_map]
  unfold weightOf
  refine Ev.bind (impl_TableOk.ev z l h) (ev_ite (fun c => ev_some ?_) fun c => Ev.bind (impl_BitsOk.ev y b _ hb (by unfold i64r; omega)) (ev_ite (fun e => ev_some ?_) fun e => Ev.bind (impl_BitsList.ev y b hb) ?_))
  · have : ¬ tabOk l = true := c
    rw [if_neg (fun hh => this hh.1)]
  · have : ¬ bitsOk b (l.length : Int) = true := e
    rw [if_neg (fun hh => this hh.2)]
  · have c' : tabOk l = true := by simpa using c
    have e' : bitsOk b (l.length : Int) = true := by simpa using e
    rw [if_pos ⟨c', e'⟩]
    have b2 := bitsOk_len e'
    obtain ⟨_, _, b3⟩ := bitsOk_iff.1 e'
    have bl := bitsFrom_length b (8 * b.length) 0
    have el : ((bitsList b).length : Int) = ((bitsFrom b 0 (8 * b.length)).length : Int) := by simp [bitsList]
    show Ev (fun k => impl_WeightOf.l0 k 0 false (bitsList b) ((bitsList b).length : Int) 0 z (l.map Row.t)) _
    rw [el]
    refine ev_to (impl_WeightOf.ev0 false z l c' (bitsFrom b 0 (8 * b.length)) (fun i hi => ?_) (by omega) (bitsFrom b 0 (8 * b.length)).length 0 0 (by omega) (by omega) (by omega)) ?_
    · have := b3 (i : Int) (List.mem_map.2 ⟨i, hi, rfl⟩)
      omega
    · rw [List.drop_zero, isum_bits b l _ 0 (fun j hj => bitsOk_bit e' (by omega)) ?_, List.drop_zero]
      · omega
      · obtain ⟨b4, b5, _⟩ := bitsOk_iff.1 e'
        unfold bitsSize at b5
        split at b5 <;> omega
theorem impl_TotalOf.ev0 (z y : Bool) (l : List Row) (hN : l.length ≤ 1048576) (h : tabOk l = true) : ∀ (d n : Nat) (acc : Int), n + d = l.length → 0 ≤ acc → acc ≤ n * 1099511627776 → Ev (fun k => impl_TotalOf.l0 k acc z (l.map Row.t) (l.length : Int) (n : Int) y (l.map Row.t)) (acc + total (l.drop n)) := by
  intro d
  induction d with
  | zero =>
    intro n acc hn h0 h1
    refine ev_step ?_
    simp only [impl_TotalOf.l0, impl_TotalOf.l0b]
    refine ev_neg (by omega) (ev_some ?_)
    rw [List.drop_of_length_le (by omega)]
    simp [total]
  | succ d ih =>
    intro n acc hn h0 h1
    obtain ⟨hr, _, hl⟩ := tabOk_iff.1 h
    have hlt : n < l.length := by omega
    have b := (hr _ (List.getElem_mem hlt)).1
    refine ev_step ?_
    simp only [impl_TotalOf.l0, impl_TotalOf.l0b, List.length_map, Int.toNat_natCast, row_at hlt, Row.c0]
    refine ev_pos (by omega) (ev_pos (by omega) (ev_pos (by omega) (Ev.bind (impl_TableOk.ev y l hN) (ev_pos h ?_))))
    rw [w64s (by omega), w64 (by omega) (by omega)]
    refine ev_to (ih (n + 1) _ (by omega) (by omega) (by omega)) ?_
    rw [List.drop_eq_getElem_cons hlt, total]
    omega
theorem impl_TotalOf.ev1 (z y : Bool) (l : List Row) (hN : l.length ≤ 1048576) (h : ¬tabOk l = true) : ∀ (d n : Nat) (acc : Int), n + d = l.length → Ev (fun k => impl_TotalOf.l0 k acc z (l.map Row.t) (l.length : Int) (n : Int) y (l.map Row.t)) acc
  | 0, n, acc, hn => by
    refine ev_step ?_
    simp only [impl_TotalOf.l0, impl_TotalOf.l0b]
    exact ev_neg (by omega) (ev_some rfl)
  | d + 1, n, acc, hn => by
    have hlt : n < l.length := by omega
    refine ev_step ?_
    simp only [impl_TotalOf.l0, impl_TotalOf.l0b, List.length_map, Int.toNat_natCast, row_at hlt, Row.c0]
    refine ev_pos (by omega) (ev_pos (by omega) (ev_pos (by omega) (Ev.bind (impl_TableOk.ev y l hN) (ev_neg h ?_))))
    rw [w64s (by omega)]
    exact impl_TotalOf.ev1 z y l hN h d (n + 1) _ (by omega)
theorem impl_TotalOf.ev (z : Bool) (l : List Row) (h : l.length ≤ 1048576) : Ev (fun k => impl_TotalOf.f k z (l.map Row.t)) (totalOf l) := by
  refine ev_step ?_
  simp only [impl_TotalOf.f, impl_TotalOf.b, List.length_map]
  unfold totalOf
  by_cases c : tabOk l = true
  · exact ev_to (impl_TotalOf.ev0 z z l h c l.length 0 0 (by omega) (by omega) (by omega)) (by rw [if_pos c, List.drop_zero]; omega)
  · exact ev_to (impl_TotalOf.ev1 z z l h c l.length 0 0 (by omega)) (by rw [if_neg c])
theorem impl_IsQuorum.ev (z y : Bool) (l : List Row) (b : List Int) (h : l.length ≤ 1048576) (hb : niceB b) : Ev (fun k => impl_IsQuorum.f k z (l.map Row.t) y b) (isQuorum l b) := by
  have w := weightOf_bd l b
  have t := totalOf_bd l
  refine ev_step ?_
  simp only [impl_IsQuorum.f, impl_IsQuorum.b]
  unfold isQuorum
  refine Ev.bind (impl_TableOk.ev z l h) (ev_ite (fun c => ?_) (fun c => ev_some (by simp [c])))
  refine Ev.bind (impl_WeightOf.ev y z l b h hb) (Ev.bind (impl_TotalOf.ev z l h) (ev_some ?_))
  rw [w64 (by omega) (by omega), w64 (by omega) (by omega), c, Bool.true_and]
end Go.Proofs.YtbpcnodmgphinaaG
namespace Go.Proofs.YtbpcnodmgphinaaG
open Go Go.Proofs.YtbpcnodmgphinaaRv Go.RowKit
set_option linter.unusedVariables false
set_option linter.unusedSimpArgs false

def areH (l : List By) : Bool := allFrom (fun n => decide ((l.getD n default).l.length = 32)) 0 l.length
theorem areH_iff {l : List By} : areH l = true ↔ ∀ b ∈ l, b.l.length = 32 := by
  unfold areH
  rw [allFrom_iff]
  constructor
  · intro h b hb
    obtain ⟨i, hi, rfl⟩ := List.mem_iff_getElem.1 hb
    have := h i (by omega) (by omega)
    rw [getD_in hi] at this
    simpa using this
  · intro h j _ hj
    have hj' : j < l.length := by omega
    rw [getD_in hj']
    simpa using h _ (List.getElem_mem hj')
theorem impl_areHashes.ev (z : Bool) (l : List By) (h : l.length ≤ 1048576) : Ev (fun k => impl_areHashes.f k z (l.map By.t)) (areH l) := by
  refine ev_step ?_
  simp only [impl_areHashes.f, impl_areHashes.b, List.length_map]
  unfold areH
  refine ev_allp (fun k i => impl_areHashes.l0 k z (l.map By.t) (l.length : Int) i) l.length _ (fun n hn hp r hr => ?_) (fun n hn hp => ?_) ?_ l.length 0 (by omega)
  · rw [getD_in hn] at hp
    refine ev_step ?_
    simp only [impl_areHashes.l0, impl_areHashes.l0b, List.length_map, Int.toNat_natCast, by_at hn, By.c0, By.c0z, succ_nat n (by omega)]
    have hp' : l[n].l.length = 32 := by simpa using hp
    exact ev_pos (by omega) (ev_pos (by omega) (ev_pos (by omega) (ev_neg (by simp [hp']) hr)))
  · rw [getD_in hn] at hp
    refine ev_step ?_
    simp only [impl_areHashes.l0, impl_areHashes.l0b, List.length_map, Int.toNat_natCast, by_at hn, By.c0, By.c0z, succ_nat n (by omega)]
    have hp' : ¬ l[n].l.length = 32 := by simpa using hp
    exact ev_pos (by omega) (ev_pos (by omega) (ev_pos (by omega) (ev_pos (by omega) (ev_some rfl))))
  · refine ev_step ?_
    simp only [impl_areHashes.l0, impl_areHashes.l0b]
    exact ev_neg (by omega) (ev_some rfl)
theorem impl_areHashes.ev2 (y z w : Bool) (a b : List Int) : Ev (fun k => impl_areHashes.f k y [.nums 5 .u8 z a, .nums 5 .u8 w b]) (decide (a.length = 32) && decide (b.length = 32)) :=
  ev_to (impl_areHashes.ev y [⟨z, a⟩, ⟨w, b⟩] (by simp)) (by simp [areH, allFrom])
theorem spec_l08Hashes.ev (z : Bool) (l : List By) (h : l.length ≤ 1048576) : Ev (fun k => spec_l08Hashes.f k z (l.map By.t)) (areH l) := by
  refine ev_step ?_
  simp only [spec_l08Hashes.f, spec_l08Hashes.b, List.length_map]
  unfold areH
  refine ev_allp (fun k i => spec_l08Hashes.l0 k z (l.map By.t) (l.length : Int) i) l.length _ (fun n hn hp r hr => ?_) (fun n hn hp => ?_) ?_ l.length 0 (by omega)
  · rw [getD_in hn] at hp
    refine ev_step ?_
    simp only [spec_l08Hashes.l0, spec_l08Hashes.l0b, List.length_map, Int.toNat_natCast, by_at hn, By.c0, By.c0z, succ_nat n (by omega)]
    have hp' : l[n].l.length = 32 := by simpa using hp
    exact ev_pos (by omega) (ev_pos (by omega) (ev_pos (by omega) (Ev.bind (spec_l07Hash.ev _ _) (ev_neg (by simp [hp']) hr))))
  · rw [getD_in hn] at hp
    refine ev_step ?_
    simp only [spec_l08Hashes.l0, spec_l08Hashes.l0b, List.length_map, Int.toNat_natCast, by_at hn, By.c0, By.c0z, succ_nat n (by omega)]
    exact ev_pos (by omega) (ev_pos (by omega) (ev_pos (by omega) (Ev.bind (spec_l07Hash.ev _ _) (ev_pos (by simpa using hp) (ev_some rfl)))))
  · refine ev_step ?_
    simp only [spec_l08Hashes.l0, spec_l08Hashes.l0b]
    exact ev_neg (by omega) (ev_some rfl)
def qcOk (a b c d e : Int) (q : QcV) : Bool :=
  limitsOk a b c d e && (isNum q.v && (isNum q.h && (decide (q.blk.length = 32) && (bitsOk q.bits a && (decide (q.tags.length = bitCount q.bits) && areH q.tags)))))
theorem qcOk_iff {a b c d e : Int} {q : QcV} (h : qcOk a b c d e q = true) : limitsOk a b c d e = true ∧ isNum q.v = true ∧ isNum q.h = true ∧ q.blk.length = 32 ∧ bitsOk q.bits a = true ∧ q.tags.length = bitCount q.bits ∧ areH q.tags = true := by
  simpa [qcOk] using h

def QcV.nice (q : QcV) : Prop := q.few ∧ q.byt
theorem QcV.nbits {q : QcV} (h : q.nice) : niceB q.bits := ⟨h.1.2.1, h.2.2.1⟩
theorem spec_QcOk.ev (a b c d e : Int) (q : QcV) (h : q.nice) (ha : i64r a) : Ev (fun k => spec_QcOk.f k a b c d e q.v q.h q.bz q.blk q.mz q.bits q.tz (q.tags.map By.t)) (qcOk a b c d e q) := by
  refine ev_step ?_
  simp only [spec_QcOk.f, spec_QcOk.b, List.length_map]
  unfold qcOk
  refine Ev.bind (spec_LimitsOk.ev _ _ _ _ _) (ev_ite (fun c0 => ?_) (fun c0 => ev_some (by simp [c0])))
  rw [c0, Bool.true_and]
  refine Ev.bind (spec_l01Num.ev _) (ev_ite (fun c1 => ?_) (fun c1 => ev_some (by simp [c1])))
  rw [c1, Bool.true_and]
  refine Ev.bind (spec_l01Num.ev _) (ev_ite (fun c2 => ?_) (fun c2 => ev_some (by simp [c2])))
  rw [c2, Bool.true_and]
  refine Ev.bind (spec_l07Hash.ev _ _) (ev_ite (fun c3 => ?_) (fun c3 => ev_some (by simp [c3])))
  rw [decide_eq_true c3, Bool.true_and]
  refine Ev.bind (spec_BitsOk.ev _ _ _ (QcV.nbits h) ha) (ev_ite (fun c4 => ?_) (fun c4 => ev_some (by simp [c4])))
  rw [c4, Bool.true_and]
  refine Ev.bind (spec_BitsCount.ev _ _ (QcV.nbits h)) (ev_ite (fun c5 => ?_) (fun c5 => ev_some ?_))
  · have : q.tags.length = bitCount q.bits := by omega
    rw [decide_eq_true this, Bool.true_and]
    exact Ev.bind (spec_l08Hashes.ev _ _ h.1.2.2.1) (ev_some rfl)
  · have : ¬ q.tags.length = bitCount q.bits := by omega
    simp [this]
theorem impl_QcOk.ev (a b c d e : Int) (q : QcV) (h : q.nice) (ha : i64r a) : Ev (fun k => impl_QcOk.f k a b c d e q.v q.h q.bz q.blk q.mz q.bits q.tz (q.tags.map By.t)) (qcOk a b c d e q) := by
  refine ev_step ?_
  simp only [impl_QcOk.f, impl_QcOk.b, List.length_map]
  unfold qcOk
  refine Ev.bind (impl_LimitsOk.ev _ _ _ _ _) (ev_ite (fun c0 => ?_) (fun c0 => ev_some (by simp [c0])))
  rw [c0, Bool.true_and]
  refine Ev.bind (impl_isNum.ev _) (ev_ite (fun c1 => ?_) (fun c1 => ev_some (by simp [c1])))
  rw [c1, Bool.true_and]
  refine Ev.bind (impl_isNum.ev _) (ev_ite (fun c2 => ?_) (fun c2 => ev_some (by simp [c2])))
  rw [c2, Bool.true_and]
  refine Ev.bind (impl_areHashes.ev1 _ _ _) (ev_ite (fun c3 => ?_) (fun c3 => ev_some (by simp [c3])))
  rw [decide_eq_true c3, Bool.true_and]
  refine Ev.bind (impl_BitsOk.ev _ _ _ (QcV.nbits h) ha) (ev_ite (fun c4 => ?_) (fun c4 => ev_some (by simp [c4])))
  rw [c4, Bool.true_and]
  refine Ev.bind (impl_BitsCount.ev _ _ (QcV.nbits h)) (ev_ite (fun c5 => ?_) (fun c5 => ev_some ?_))
  · have : q.tags.length = bitCount q.bits := by omega
    rw [decide_eq_true this, Bool.true_and]
    exact Ev.bind (impl_areHashes.ev _ _ h.1.2.2.1) (ev_some rfl)
  · have : ¬ q.tags.length = bitCount q.bits := by omega
    simp [this]
def voteAt (q : QcV) (i : Nat) : Vt := ⟨q.v, q.h, false, q.blk, rdI (bitsList q.bits) (i : Int), false, (q.tags.getD i default).l⟩
def votesOf (q : QcV) : List Vt := (List.range q.tags.length).map (voteAt q)
theorem votesOf_length (q : QcV) : (votesOf q).length = q.tags.length := by simp [votesOf]
theorem votesOf_get (q : QcV) {i : Nat} (h : i < q.tags.length) : (votesOf q)[i]'(by simp [votesOf, h]) = voteAt q i := by simp [votesOf]
theorem votesOf_take (q : QcV) {i : Nat} (h : i < q.tags.length) : ((votesOf q).take (i + 1)).map Vt.t = ((votesOf q).take i).map Vt.t ++ [(voteAt q i).t] := by
  rw [List.take_succ_eq_append_getElem (by simp [votesOf, h]), List.map_append, votesOf_get q h]
  rfl
theorem impl_QcVotes.ev (q : QcV) (h : q.nice) (ht : q.tags.length = bitCount q.bits) : Ev (fun k => impl_QcVotes.f k q.v q.h q.bz q.blk q.mz q.bits q.tz (q.tags.map By.t)) (false, (votesOf q).map Vt.t) := by
  have hN : q.tags.length ≤ 1048576 := h.1.2.2.1
  have hL : (bitsList q.bits).length = q.tags.length := by simp [bitsList, ht, bitCount]
  refine ev_step ?_
  simp only [impl_QcVotes.f, impl_QcVotes.b, List.length_map]
  refine Ev.bind (impl_BitsCount.ev _ _ (QcV.nbits h)) (ev_neg (by simp [ht]) (Ev.bind (impl_BitsList.ev _ _ (QcV.nbits h)) ?_))
  have key : ∀ (d n : Nat), n + d = q.tags.length → Ev (fun k => impl_QcVotes.l0 k (((votesOf q).take n).map Vt.t) false (bitsList q.bits) ((bitsList q.bits).length : Int) (n : Int) q.v q.h q.bz q.blk q.mz q.bits q.tz (q.tags.map By.t)) (false, (votesOf q).map Vt.t) := by
    intro d
    induction d with
    | zero =>
      intro n hn
      refine ev_step ?_
      simp only [impl_QcVotes.l0, impl_QcVotes.l0b]
      refine ev_neg (by omega) (ev_some ?_)
      rw [List.take_of_length_le (by rw [votesOf_length]; omega)]
    | succ d ih =>
      intro n hn
      have hlt : n < q.tags.length := by omega
      have i2 := ih (n + 1) (by omega)
      rw [votesOf_take q hlt] at i2
      have hg : (voteAt q n).t = .agg [(.int .i64 q.v), (.int .i64 q.h), (.nums 5 .u8 false q.blk), (.int .i64 (rdI (bitsList q.bits) (n : Int))), (.nums 5 .u8 false q.tags[n].l)] := by
        unfold voteAt Vt.t
        rw [getD_in hlt]
      rw [hg] at i2
      refine ev_step ?_
      simp only [impl_QcVotes.l0, impl_QcVotes.l0b, List.length_map, Int.toNat_natCast, by_at hlt, By.c0, By.c0z, succ_nat n (by omega)]
      exact ev_pos (by omega) (ev_pos (by omega) (ev_pos (by omega) (Ev.bind (impl_copyBytes.ev _ _ (Nat.le_trans h.1.1 (by decide))) (ev_pos (by omega) (ev_pos (by omega) (Ev.bind (impl_copyBytes.ev _ _ (Nat.le_trans (h.1.2.2.2 _ (List.getElem_mem hlt)) (by decide))) (ev_pos (by simp; omega) i2)))))))
  exact key q.tags.length 0 (by omega)
def vtGood (l : List Row) (x : Vt) : Bool := voteGood l x.v x.h x.blk x.who x.tag
def qcCode (a b c d e : Int) (l : List Row) (q : QcV) : Int :=
  if belongs a b c d e l = true then (if qcOk a b c d e q = true then (if (votesOf q).all (vtGood l) = true then (if isQuorum l q.bits = true then 0 else 3) else 2) else 1) else 1
theorem votesOf_blk {q : QcV} {x : Vt} (h : x ∈ votesOf q) : x.blk = q.blk := by
  obtain ⟨i, _, rfl⟩ := List.mem_map.1 h
  rfl
theorem Rows.few {l : List Row} (h : Rows l) : l.length ≤ 1048576 := h.1
theorem impl_QcCode.ev (a b c d e : Int) (z : Bool) (l : List Row) (hl : Rows l) (q : QcV) (h : q.nice) (ha : i64r a) : Ev (fun k => impl_QcCode.f k a b c d e z (l.map Row.t) q.v q.h q.bz q.blk q.mz q.bits q.tz (q.tags.map By.t)) (qcCode a b c d e l q) := by
  refine ev_step ?_
  simp only [impl_QcCode.f, impl_QcCode.b]
  unfold qcCode
  refine Ev.bind (impl_belongs.ev _ _ _ _ _ _ _ hl.few) (ev_ite (fun c0 => ev_some ?_) (fun c0 => ?_))
  · rw [if_neg (by simpa using c0)]
  rw [if_pos (by simpa using c0)]
  refine Ev.bind (impl_QcOk.ev _ _ _ _ _ q h ha) (ev_ite (fun c1 => ev_some ?_) (fun c1 => ?_))
  · rw [if_neg (by simpa using c1)]
  have c1 : qcOk a b c d e q = true := by simpa using c1
  rw [if_pos c1]
  have ht := (qcOk_iff c1).2.2.2.2.2.1
  refine Ev.bind (impl_QcVotes.ev q h ht) ?_
  have hN : q.tags.length ≤ 1048576 := h.1.2.2.1
  have hv := votesOf_length q
  have key : ∀ (d n : Nat), n + d = (votesOf q).length → Ev (fun k => impl_QcCode.l0 k false ((votesOf q).map Vt.t) ((votesOf q).length : Int) (n : Int) z (l.map Row.t) q.v q.h q.bz q.blk q.mz q.bits q.tz (q.tags.map By.t)) (if ((votesOf q).drop n).all (vtGood l) = true then (if isQuorum l q.bits = true then 0 else 3) else 2) := by
    intro d
    induction d with
    | zero =>
      intro n hn
      refine ev_step ?_
      simp only [impl_QcCode.l0, impl_QcCode.l0b]
      rw [List.drop_of_length_le (by omega)]
      refine ev_neg (by omega) (Ev.bind (impl_IsQuorum.ev _ _ _ _ hl.few (QcV.nbits h)) (ev_ite (fun e => ev_some ?_) (fun e => ev_some ?_)))
      · simp at e; simp [e]
      · simp at e; simp [e]
    | succ d ih =>
      intro n hn
      have hlt : n < (votesOf q).length := by omega
      have hm := votesOf_blk (List.getElem_mem hlt)
      refine ev_step ?_
      simp only [impl_QcCode.l0, impl_QcCode.l0b, List.length_map, Int.toNat_natCast, vt_at hlt, Vt.c0, Vt.c1, Vt.c2, Vt.c2z, Vt.c3, Vt.c4, Vt.c4z, succ_nat n (by omega)]
      rw [List.drop_eq_getElem_cons hlt, List.all_cons]
      refine ev_pos (by omega) (ev_pos (by omega) (ev_pos (by omega) (Ev.bind (impl_VoteGood.ev _ _ hl _ _ _ _ (by rw [hm]; exact h.1.1) (by rw [hm]; exact h.2.1) _ _ _) (ev_ite (fun e => ev_some ?_) (fun e => ev_to (ih (n + 1) (by omega)) ?_)))))
      · have : vtGood l (votesOf q)[n] = false := by unfold vtGood; simpa using e
        simp [this]
      · have : vtGood l (votesOf q)[n] = true := by unfold vtGood; simpa using e
        simp [this]
  have := key (votesOf q).length 0 (by omega)
  rw [List.drop_zero] at this
  simp only [List.length_map]
  exact this
end Go.Proofs.YtbpcnodmgphinaaG
namespace Go.Proofs.YtbpcnodmgphinaaG
open Go Go.Proofs.YtbpcnodmgphinaaRv Go.RowKit
set_option linter.unusedVariables false
set_option linter.unusedSimpArgs false

theorem spec_BitsNew.ev (n : Nat) (h1 : 1 ≤ n) (h2 : n ≤ 10) : Ev (fun k => spec_BitsNew.f k (n : Int)) (false, List.replicate (bitsSize (n : Int)).toNat 0) := by
  have z := bitsSize_bd h1 h2
  refine ev_step ?_
  simp only [spec_BitsNew.f, spec_BitsNew.b]
  exact Ev.bind (spec_l02Signers.ev _) (ev_neg (by simp; omega) (Ev.bind (spec_BitsSize.ev _ (by unfold i64r; omega)) (ev_pos trivial (ev_pos (by omega) (ev_pos (by omega) (ev_some rfl))))))
end Go.Proofs.YtbpcnodmgphinaaG
namespace Go.Proofs.YtbpcnodmgphinaaG
open Go Go.Proofs.YtbpcnodmgphinaaRv Go.RowKit
set_option linter.unusedVariables false
set_option linter.unusedSimpArgs false

def fits (x : Head) : Bool := decide (x.q.v < x.v) && (decide (x.q.h = wrap64 (x.h - 1)) && sameB x.q.blk x.par)
def headOk (a b c d e : Int) (x : Head) : Bool :=
  qcOk a b c d e x.q && (isNum x.v && (decide (1 ≤ x.h ∧ x.h ≤ 1152921504606846975) && (decide (0 ≤ x.p ∧ x.p ≤ wrap64 (a - 1)) && ((decide (x.par.length = 32) && decide (x.root.length = 32)) && fits x))))
def Head.nice (x : Head) : Prop := x.few ∧ x.byt
theorem impl_HeadOk.ev (a b c d e : Int) (ha : i64r a) (x : Head) (h : x.nice) : Ev (fun k => impl_HeadOk.f k a b c d e x.v x.h x.p x.az x.par x.rz x.root x.q.v x.q.h x.q.bz x.q.blk x.q.mz x.q.bits x.q.tz (x.q.tags.map By.t)) (headOk a b c d e x) := by
  have hq : x.q.nice := ⟨h.1.2.2, h.2.2.2⟩
  have M : Ev (fun k => impl_Head_matches.f k x.v x.h x.p x.az x.par x.rz x.root x.q.v x.q.h x.q.bz x.q.blk x.q.mz x.q.bits x.q.tz (x.q.tags.map By.t)) (fits x) := by
    refine ev_step ?_
    simp only [impl_Head_matches.f, impl_Head_matches.b]
    unfold fits
    refine ev_ite (fun c1 => ev_ite (fun c2 => Ev.bind (impl_SameBytes.ev _ _ _ _) (ev_some (by simp [c1, c2]))) (fun c2 => ev_some (by simp [c2]))) (fun c1 => ev_some (by simp [c1]))
  refine ev_step ?_
  simp only [impl_HeadOk.f, impl_HeadOk.b]
  unfold headOk
  refine Ev.bind (impl_QcOk.ev a b c d e x.q hq ha) (ev_ite (fun c0 => ?_) (fun c0 => ev_some (by simp [c0])))
  rw [c0, Bool.true_and]
  refine Ev.bind (impl_isNum.ev _) (ev_ite (fun c1 => ?_) (fun c1 => ev_some (by simp [c1])))
  rw [c1, Bool.true_and]
  refine Ev.bind (impl_within.ev _ _ _) (ev_ite (fun c2 => ?_) (fun c2 => ev_some (by rw [decide_eq_false c2]; rfl)))
  rw [decide_eq_true c2, Bool.true_and]
  refine Ev.bind (impl_within.ev _ _ _) (ev_ite (fun c3 => ?_) (fun c3 => ev_some (by rw [decide_eq_false c3]; rfl)))
  rw [decide_eq_true c3, Bool.true_and]
  refine Ev.bind (impl_areHashes.ev2 _ _ _ _ _) (ev_ite (fun c4 => ?_) (fun c4 => ev_some (by simp only [Bool.not_eq_true] at c4; rw [c4]; rfl)))
  rw [c4, Bool.true_and]
  exact Ev.bind M (ev_some rfl)
theorem spec_HeadOk.ev (a b c d e : Int) (ha : i64r a) (x : Head) (h : x.nice) : Ev (fun k => spec_HeadOk.f k a b c d e x.v x.h x.p x.az x.par x.rz x.root x.q.v x.q.h x.q.bz x.q.blk x.q.mz x.q.bits x.q.tz (x.q.tags.map By.t)) (headOk a b c d e x) := by
  have hq : x.q.nice := ⟨h.1.2.2, h.2.2.2⟩
  have M : Ev (fun k => spec_l13Fits.f k x.v x.h x.p x.az x.par x.rz x.root x.q.v x.q.h x.q.bz x.q.blk x.q.mz x.q.bits x.q.tz (x.q.tags.map By.t)) (fits x) := by
    refine ev_step ?_
    simp only [spec_l13Fits.f, spec_l13Fits.b]
    unfold fits
    refine ev_ite (fun c1 => ev_ite (fun c2 => Ev.bind (spec_SameBytes.ev _ _ _ _) (ev_some (by simp [c1, c2]))) (fun c2 => ev_some (by simp [c2]))) (fun c1 => ev_some (by simp [c1]))
  have lq : limitsOk a b c d e = false → qcOk a b c d e x.q = false := fun h => by simp [qcOk, h]
  refine ev_step ?_
  simp only [spec_HeadOk.f, spec_HeadOk.b]
  unfold headOk
  refine Ev.bind (spec_LimitsOk.ev _ _ _ _ _) (ev_ite (fun c0 => ?_) (fun c0 => ev_some (by rw [lq (by simpa using c0)]; rfl)))
  refine Ev.bind (spec_l01Num.ev _) (ev_ite (fun c1 => ?_) (fun c1 => ev_some (by simp [c1])))
  rw [c1, Bool.true_and]
  refine Ev.bind (spec_l01In.ev _ _ _) (ev_ite (fun c2 => ?_) (fun c2 => ev_some (by rw [decide_eq_false c2]; simp)))
  rw [decide_eq_true c2, Bool.true_and]
  refine Ev.bind (spec_l01In.ev _ _ _) (ev_ite (fun c3 => ?_) (fun c3 => ev_some (by rw [decide_eq_false c3]; simp)))
  rw [decide_eq_true c3, Bool.true_and]
  refine Ev.bind (spec_l07Hash.ev _ _) (ev_ite (fun c4 => ?_) (fun c4 => ev_some (by rw [decide_eq_false c4]; simp)))
  rw [decide_eq_true c4, Bool.true_and]
  refine Ev.bind (spec_l07Hash.ev _ _) (ev_ite (fun c5 => ?_) (fun c5 => ev_some (by rw [decide_eq_false c5]; simp)))
  rw [decide_eq_true c5, Bool.true_and]
  refine Ev.bind (spec_QcOk.ev a b c d e x.q hq ha) (ev_ite (fun c6 => ?_) (fun c6 => ev_some (by simp [c6])))
  rw [c6, Bool.true_and]
  exact Ev.bind M (ev_some rfl)


def NiceH (l : List Head) : Prop := l.length ≤ 1048576 ∧ ∀ x ∈ l, x.nice
end Go.Proofs.YtbpcnodmgphinaaG
namespace Go.Proofs.YtbpcnodmgphinaaG
open Go Go.Proofs.YtbpcnodmgphinaaRv Go.RowKit
set_option linter.unusedVariables false
set_option linter.unusedSimpArgs false

theorem putV_num {b : List Int} {n : Int} (h : isNum n = true) : putV b n = (false, b ++ vint 8 n, true) := if_pos h
def tagsB (l : List By) : List Int := l.flatMap fun b => b.l
def qcBytes (b : List Int) (q : QcV) : List Int := ((((b ++ vint 8 q.v) ++ vint 8 q.h) ++ q.blk) ++ q.bits) ++ tagsB q.tags
def headBytes (b : List Int) (x : Head) : List Int := qcBytes (((((b ++ vint 8 x.v) ++ vint 8 x.h) ++ vint 8 x.p) ++ x.par) ++ x.root) x.q
theorem tagsB_len : ∀ (l : List By), (∀ b ∈ l, b.l.length = 32) → (tagsB l).length = 32 * l.length
  | [], h => rfl
  | b :: l, h => by
    have := tagsB_len l fun x hx => h x (by simp [hx])
    simp only [tagsB, List.flatMap_cons, List.length_append, List.length_cons] at this ⊢
    rw [this, h b (by simp)]
    omega
theorem tagsB_ok {l : List By} (h : BytesL l) : bytesOk (tagsB l) := fun x hx => by
  obtain ⟨b, hb, hx⟩ := List.mem_flatMap.1 hx
  exact h b hb x hx
theorem tagsB_take {l : List By} {n : Nat} (h : n < l.length) : tagsB (l.take (n + 1)) = tagsB (l.take n) ++ l[n].l := by
  rw [List.take_succ_eq_append_getElem h]
  unfold tagsB
  rw [List.flatMap_append]
  simp only [List.flatMap_cons, List.flatMap_nil, List.append_nil]
structure QcK (q : QcV) : Prop where
  v : isNum q.v = true
  h : isNum q.h = true
  blk : q.blk.length = 32
  bits : q.bits.length ≤ 2
  cnt : q.tags.length ≤ 16
  tags : ∀ b ∈ q.tags, b.l.length = 32
theorem qcK {a b c d e : Int} {q : QcV} (h : qcOk a b c d e q = true) : QcK q := by
  obtain ⟨_, h1, h2, h3, h4, h5, h6⟩ := qcOk_iff h
  have hb := bitsOk_len h4
  have := bitsFrom_length q.bits (8 * q.bits.length) 0
  exact ⟨h1, h2, h3, hb, by rw [h5]; unfold bitCount; omega, areH_iff.1 h6⟩
theorem vint_len (n : Int) : (vint 8 n).length ≤ 9 := (vint_length 8 n).2
theorem qcBytes_len {b : List Int} {q : QcV} (h : QcK q) : (qcBytes b q).length ≤ b.length + 600 := by
  have := tagsB_len q.tags h.tags
  have h1 := vint_len q.v
  have h2 := vint_len q.h
  have h3 := h.blk
  have h4 := h.bits
  have h5 := h.cnt
  simp only [qcBytes, List.length_append]
  omega
theorem vint_ok {n : Int} (h : isNum n = true) : bytesOk (vint 8 n) := vint_nice h
theorem qcBytes_ok {b : List Int} {q : QcV} (h : QcK q) (hb : bytesOk b) (hq : q.byt) : bytesOk (qcBytes b q) :=
  app_ok (app_ok (app_ok (app_ok (app_ok hb (vint_ok h.v)) (vint_ok h.h)) hq.1) hq.2.1) (tagsB_ok hq.2.2)
theorem impl_writer_num.ev (z : Bool) (b : List Int) (n : Int) (hb : b.length ≤ 1073741824) (h : isNum n = true) : Ev (fun k => impl_writer_num.f k z b n) (false, b ++ vint 8 n) := by
  refine ev_step ?_
  simp only [impl_writer_num.f, impl_writer_num.b]
  exact Ev.bind (impl_PutVar.ev _ _ _ hb) (ev_some (by rw [putV_num h]))
theorem spec_l11Num.evN (z : Bool) (b : List Int) (n : Int) (hb : b.length ≤ 1073741824) (h : isNum n = true) : Ev (fun k => spec_l11Num.f k z b n) (false, b ++ vint 8 n) :=
  ev_to (spec_l11Num.ev z b n hb) (by rw [putV_num h])
theorem impl_writer_raw.ev (z : Bool) (b : List Int) (y : Bool) (x : List Int) (hb : b.length ≤ 1073741824) (hx : x.length ≤ 1073741824) : Ev (fun k => impl_writer_raw.f k z b y x) (x.isEmpty && z, b ++ x) := by
  refine ev_step ?_
  simp only [impl_writer_raw.f, impl_writer_raw.b]
  exact ev_pos (by omega) (ev_some rfl)
theorem impl_writer_qc.ev (z : Bool) (b : List Int) (hb : b.length ≤ 100000) (q : QcV) (h : QcK q) : Ev (fun k => impl_writer_qc.f k z b q.v q.h q.bz q.blk q.mz q.bits q.tz (q.tags.map By.t)) (false, qcBytes b q) := by
  have h1 := vint_len q.v
  have h2 := vint_len q.h
  have h3 := h.blk
  have h4 := h.bits
  have h5 := h.cnt
  refine ev_step ?_
  simp only [impl_writer_qc.f, impl_writer_qc.b, List.length_map]
  refine Ev.bind (impl_writer_num.ev _ _ _ (by omega) h.v) (Ev.bind (impl_writer_num.ev _ _ _ (by simp only [List.length_append]; omega) h.h) (Ev.bind (impl_writer_raw.ev _ _ _ _ (by simp only [List.length_append]; omega) (by omega)) (Ev.bind (impl_writer_raw.ev _ _ _ _ (by simp only [List.length_append]; omega) (by omega)) ?_)))
  simp only [Bool.and_false]
  have key : ∀ (d n : Nat), n + d = q.tags.length → Ev (fun k => impl_writer_qc.l0 k q.tz (q.tags.map By.t) (q.tags.length : Int) (n : Int) false (((((b ++ vint 8 q.v) ++ vint 8 q.h) ++ q.blk) ++ q.bits) ++ tagsB (q.tags.take n))) (false, qcBytes b q) := by
    intro d
    induction d with
    | zero =>
      intro n hn
      refine ev_step ?_
      simp only [impl_writer_qc.l0, impl_writer_qc.l0b]
      rw [List.take_of_length_le (by omega)]
      exact ev_neg (by omega) (ev_some rfl)
    | succ d ih =>
      intro n hn
      have hlt : n < q.tags.length := by omega
      have i2 := ih (n + 1) (by omega)
      have ht := h.tags _ (List.getElem_mem hlt)
      have hl := tagsB_len (q.tags.take n) fun x hx => h.tags x (List.mem_of_mem_take hx)
      rw [List.length_take] at hl
      rw [tagsB_take hlt, ← List.append_assoc] at i2
      refine ev_step ?_
      simp only [impl_writer_qc.l0, impl_writer_qc.l0b, List.length_map, Int.toNat_natCast, by_at hlt, By.c0, By.c0z, succ_nat n (by omega)]
      refine ev_pos (by omega) (ev_pos (by omega) (ev_pos (by omega) (Ev.bind (impl_writer_raw.ev _ _ _ _ (by simp only [List.length_append]; omega) (by omega)) ?_)))
      simp only [Bool.and_false]
      exact i2
  have := key q.tags.length 0 (by omega)
  simpa [tagsB] using this
theorem spec_PutQc.ev (a c d e f : Int) (ha : i64r a) (z : Bool) (b : List Int) (hb : b.length ≤ 100000) (q : QcV) (hn : q.nice) (ok : qcOk a c d e f q = true) : Ev (fun k => spec_PutQc.f k a c d e f z b q.v q.h q.bz q.blk q.mz q.bits q.tz (q.tags.map By.t)) (false, qcBytes b q, true) := by
  have h := qcK ok
  have h1 := vint_len q.v
  have h2 := vint_len q.h
  have h3 := h.blk
  have h4 := h.bits
  have h5 := h.cnt
  refine ev_step ?_
  simp only [spec_PutQc.f, spec_PutQc.b, List.length_map]
  refine Ev.bind (spec_QcOk.ev _ _ _ _ _ q hn ha) (ev_neg (by simp [ok]) (Ev.bind (spec_l11Num.evN _ _ _ (by omega) h.v) (Ev.bind (spec_l11Num.evN _ _ _ (by simp only [List.length_append]; omega) h.h) ?_)))
  refine ev_pos (by simp only [List.length_append]; omega) (ev_pos (by simp only [List.length_append]; omega) ?_)
  simp only [Bool.and_false]
  have key : ∀ (d n : Nat), n + d = q.tags.length → Ev (fun k => spec_PutQc.l0 k false (((((b ++ vint 8 q.v) ++ vint 8 q.h) ++ q.blk) ++ q.bits) ++ tagsB (q.tags.take n)) q.tz (q.tags.map By.t) (q.tags.length : Int) (n : Int)) (false, qcBytes b q, true) := by
    intro d
    induction d with
    | zero =>
      intro n hn
      refine ev_step ?_
      simp only [spec_PutQc.l0, spec_PutQc.l0b]
      rw [List.take_of_length_le (by omega)]
      exact ev_neg (by omega) (ev_some rfl)
    | succ d ih =>
      intro n hn
      have hlt : n < q.tags.length := by omega
      have i2 := ih (n + 1) (by omega)
      have ht := h.tags _ (List.getElem_mem hlt)
      have hl := tagsB_len (q.tags.take n) fun x hx => h.tags x (List.mem_of_mem_take hx)
      rw [List.length_take] at hl
      rw [tagsB_take hlt, ← List.append_assoc] at i2
      refine ev_step ?_
      simp only [spec_PutQc.l0, spec_PutQc.l0b, List.length_map, Int.toNat_natCast, by_at hlt, By.c0, By.c0z, succ_nat n (by omega), Bool.and_false]
      exact ev_pos (by omega) (ev_pos (by omega) (ev_pos (by omega) (ev_pos (by simp only [List.length_append]; omega) i2)))
  have := key q.tags.length 0 (by omega)
  simpa [tagsB] using this


structure HeadK (x : Head) : Prop where
  v : isNum x.v = true
  h : isNum x.h = true
  p : isNum x.p = true
  par : x.par.length = 32
  root : x.root.length = 32
  q : QcK x.q
theorem headOk_qc {a b c d e : Int} {x : Head} (h : headOk a b c d e x = true) : qcOk a b c d e x.q = true := by
  simp only [headOk, Bool.and_eq_true] at h
  exact h.1
theorem headK {a b c d e : Int} {x : Head} (h : headOk a b c d e x = true) : HeadK x := by
  have hq := headOk_qc h
  have hl := limitsOk_n (qcOk_iff hq).1
  simp only [headOk, Bool.and_eq_true, decide_eq_true_eq] at h
  obtain ⟨_, h1, h2, h3, h4, _⟩ := h
  rw [w64 (by omega) (by omega)] at h3
  exact ⟨h1, isNum_iff.2 (by omega), isNum_iff.2 (by omega), h4.1, h4.2, qcK hq⟩
theorem headBytes_len {b : List Int} {x : Head} (h : HeadK x) : (headBytes b x).length ≤ b.length + 700 := by
  have h1 := vint_len x.v
  have h2 := vint_len x.h
  have h3 := vint_len x.p
  have h4 := h.par
  have h5 := h.root
  refine Nat.le_trans (qcBytes_len h.q) ?_
  simp only [List.length_append]
  omega
theorem headBytes_ok {b : List Int} {x : Head} (h : HeadK x) (hb : bytesOk b) (hx : x.byt) : bytesOk (headBytes b x) :=
  qcBytes_ok h.q (app_ok (app_ok (app_ok (app_ok (app_ok hb (vint_ok h.v)) (vint_ok h.h)) (vint_ok h.p)) hx.1) hx.2.1) hx.2.2
def hash (a b c d e : Int) (x : Head) : Bool × List Int := if headOk a b c d e x = true then (false, sha (headBytes [72] x)) else (true, [])
theorem bytes72 : bytesOk [72] := fun x hx => by simp at hx; omega
theorem impl_PutHead.ev (a b c d e : Int) (ha : i64r a) (x : Head) (hn : x.nice) : Ev (fun k => impl_PutHead.f k a b c d e false [72] x.v x.h x.p x.az x.par x.rz x.root x.q.v x.q.h x.q.bz x.q.blk x.q.mz x.q.bits x.q.tz (x.q.tags.map By.t)) (if headOk a b c d e x = true then (false, headBytes [72] x, true) else (true, [], false)) := by
  refine ev_step ?_
  simp only [impl_PutHead.f, impl_PutHead.b]
  refine Ev.bind (impl_HeadOk.ev a b c d e ha x hn) (ev_ite (fun c0 => ev_some ?_) (fun c0 => ?_))
  · rw [if_neg (by simpa using c0)]
  have c0 : headOk a b c d e x = true := by simpa using c0
  rw [if_pos c0]
  have h := headK c0
  have h1 := vint_len x.v
  have h2 := vint_len x.h
  have h3 := vint_len x.p
  have h4 := h.par
  have h5 := h.root
  have W : Ev (fun k => impl_writer_head.f k false [72] x.v x.h x.p x.az x.par x.rz x.root x.q.v x.q.h x.q.bz x.q.blk x.q.mz x.q.bits x.q.tz (x.q.tags.map By.t)) (false, headBytes [72] x) := by
    refine ev_step ?_
    simp only [impl_writer_head.f, impl_writer_head.b]
    refine Ev.bind (impl_writer_num.ev _ _ _ (by simp) h.v) (Ev.bind (impl_writer_num.ev _ _ _ (by simp only [List.length_append, List.length_cons, List.length_nil]; omega) h.h) (Ev.bind (impl_writer_num.ev _ _ _ (by simp only [List.length_append, List.length_cons, List.length_nil]; omega) h.p) (Ev.bind (impl_writer_raw.ev _ _ _ _ (by simp only [List.length_append, List.length_cons, List.length_nil]; omega) (by omega)) (Ev.bind (impl_writer_raw.ev _ _ _ _ (by simp only [List.length_append, List.length_cons, List.length_nil]; omega) (by omega)) (Ev.bind (impl_writer_qc.ev _ _ (by simp only [List.length_append, List.length_cons, List.length_nil]; omega) x.q h.q) (ev_some rfl))))))
  exact Ev.bind (impl_copyBytes.ev _ _ (by simp)) (Ev.bind W (ev_some rfl))
theorem spec_PutHead.ev (a b c d e : Int) (ha : i64r a) (x : Head) (hn : x.nice) : Ev (fun k => spec_PutHead.f k a b c d e false [72] x.v x.h x.p x.az x.par x.rz x.root x.q.v x.q.h x.q.bz x.q.blk x.q.mz x.q.bits x.q.tz (x.q.tags.map By.t)) (if headOk a b c d e x = true then (false, headBytes [72] x, true) else (true, [], false)) := by
  refine ev_step ?_
  simp only [spec_PutHead.f, spec_PutHead.b]
  refine Ev.bind (spec_HeadOk.ev a b c d e ha x hn) (ev_ite (fun c0 => ev_some ?_) (fun c0 => ?_))
  · rw [if_neg (by simpa using c0)]
  have c0 : headOk a b c d e x = true := by simpa using c0
  rw [if_pos c0]
  have h := headK c0
  have h1 := vint_len x.v
  have h2 := vint_len x.h
  have h3 := vint_len x.p
  have h4 := h.par
  have h5 := h.root
  refine Ev.bind (spec_l11Num.evN _ _ _ (by simp) h.v) (Ev.bind (spec_l11Num.evN _ _ _ (by simp only [List.length_append, List.length_cons, List.length_nil]; omega) h.h) (Ev.bind (spec_l11Num.evN _ _ _ (by simp only [List.length_append, List.length_cons, List.length_nil]; omega) h.p) ?_))
  refine ev_pos (by simp only [List.length_append, List.length_cons, List.length_nil]; omega) (ev_pos (by simp only [List.length_append, List.length_cons, List.length_nil]; omega) ?_)
  exact Ev.bind (spec_PutQc.ev a b c d e ha _ _ (by simp only [List.length_append, List.length_cons, List.length_nil]; omega) x.q ⟨hn.1.2.2, hn.2.2.2⟩ (headOk_qc c0)) (ev_some rfl)
def links (a b c d e : Int) (x y : Head) : Bool := headOk a b c d e x && (headOk a b c d e y && (sameB y.par (hash a b c d e x).2 && (decide (y.q.v = x.v) && decide (y.q.h = x.h))))
theorem impl_HeadHash.ev (a b c d e : Int) (ha : i64r a) (x : Head) (hn : x.nice) : Ev (fun k => impl_HeadHash.f k a b c d e x.v x.h x.p x.az x.par x.rz x.root x.q.v x.q.h x.q.bz x.q.blk x.q.mz x.q.bits x.q.tz (x.q.tags.map By.t)) (hash a b c d e x) := by
  refine ev_step ?_
  simp only [impl_HeadHash.f, impl_HeadHash.b]
  unfold hash
  refine Ev.bind (impl_PutHead.ev a b c d e ha x hn) ?_
  by_cases c0 : headOk a b c d e x = true
  · rw [if_pos c0, if_pos c0]
    have h := headK c0
    have := headBytes_len (b := [72]) h
    simp only [List.length_cons, List.length_nil] at this
    exact ev_neg (by simp) (Ev.bind (impl_Sha.ev _ _ (by simp only []; omega) (headBytes_ok h bytes72 hn.2)) (ev_some rfl))
  · rw [if_neg c0, if_neg c0]
    exact ev_pos (by simp) (ev_some rfl)
theorem impl_Links.ev (a b c d e : Int) (ha : i64r a) (x y : Head) (hn : x.nice) (hm : y.nice) : Ev (fun k => impl_Links.f k a b c d e x.v x.h x.p x.az x.par x.rz x.root x.q.v x.q.h x.q.bz x.q.blk x.q.mz x.q.bits x.q.tz (x.q.tags.map By.t) y.v y.h y.p y.az y.par y.rz y.root y.q.v y.q.h y.q.bz y.q.blk y.q.mz y.q.bits y.q.tz (y.q.tags.map By.t)) (links a b c d e x y) := by
  refine ev_step ?_
  simp only [impl_Links.f, impl_Links.b]
  unfold links
  refine Ev.bind (impl_HeadOk.ev a b c d e ha x hn) (ev_ite (fun c0 => ?_) (fun c0 => ev_some (by simp [c0])))
  rw [c0, Bool.true_and]
  refine Ev.bind (impl_HeadOk.ev a b c d e ha y hm) (ev_ite (fun c1 => ?_) (fun c1 => ev_some (by simp [c1])))
  rw [c1, Bool.true_and]
  refine Ev.bind (impl_HeadHash.ev a b c d e ha x hn) (Ev.bind (impl_SameBytes.ev _ _ _ _) (ev_ite (fun c2 => ?_) (fun c2 => ev_some (by simp [c2]))))
  rw [c2, Bool.true_and]
  exact ev_ite (fun c3 => ev_some (by simp [c3])) (fun c3 => ev_some (by simp [c3]))
theorem spec_HeadHash.ev (a b c d e : Int) (ha : i64r a) (x : Head) (hn : x.nice) : Ev (fun k => spec_HeadHash.f k a b c d e x.v x.h x.p x.az x.par x.rz x.root x.q.v x.q.h x.q.bz x.q.blk x.q.mz x.q.bits x.q.tz (x.q.tags.map By.t)) (hash a b c d e x) := by
  refine ev_step ?_
  simp only [spec_HeadHash.f, spec_HeadHash.b]
  unfold hash
  refine Ev.bind (spec_PutHead.ev a b c d e ha x hn) ?_
  by_cases c0 : headOk a b c d e x = true
  · rw [if_pos c0, if_pos c0]
    have h := headK c0
    have := headBytes_len (b := [72]) h
    simp only [List.length_cons, List.length_nil] at this
    exact ev_neg (by simp) (Ev.bind (spec_Sha.ev _ _ (by simp only []; omega) (headBytes_ok h bytes72 hn.2)) (ev_some rfl))
  · rw [if_neg c0, if_neg c0]
    exact ev_pos (by simp) (ev_some rfl)
theorem spec_Links.ev (a b c d e : Int) (ha : i64r a) (x y : Head) (hn : x.nice) (hm : y.nice) : Ev (fun k => spec_Links.f k a b c d e x.v x.h x.p x.az x.par x.rz x.root x.q.v x.q.h x.q.bz x.q.blk x.q.mz x.q.bits x.q.tz (x.q.tags.map By.t) y.v y.h y.p y.az y.par y.rz y.root y.q.v y.q.h y.q.bz y.q.blk y.q.mz y.q.bits y.q.tz (y.q.tags.map By.t)) (links a b c d e x y) := by
  refine ev_step ?_
  simp only [spec_Links.f, spec_Links.b]
  unfold links
  refine Ev.bind (spec_HeadOk.ev a b c d e ha x hn) (ev_ite (fun c0 => ?_) (fun c0 => ev_some (by simp [c0])))
  rw [c0, Bool.true_and]
  refine Ev.bind (spec_HeadOk.ev a b c d e ha y hm) (ev_ite (fun c1 => ?_) (fun c1 => ev_some (by simp [c1])))
  rw [c1, Bool.true_and]
  refine Ev.bind (spec_HeadHash.ev a b c d e ha x hn) (Ev.bind (spec_SameBytes.ev _ _ _ _) (ev_ite (fun c2 => ?_) (fun c2 => ev_some (by simp [c2]))))
  rw [c2, Bool.true_and]
  exact ev_ite (fun c3 => ev_some (by simp [c3])) (fun c3 => ev_some (by simp [c3]))
def areHeadsV (a b c d e : Int) (l : List Head) : Bool := allFrom (fun n => headOk a b c d e (l.getD n default)) 0 l.length
theorem impl_areHeads.ev (a b c d e : Int) (ha : i64r a) (z : Bool) (l : List Head) (hl : NiceH l) : Ev (fun k => impl_areHeads.f k a b c d e z (l.map Head.t)) (areHeadsV a b c d e l) := by
  have hN := hl.1
  refine ev_step ?_
  simp only [impl_areHeads.f, impl_areHeads.b, List.length_map]
  unfold areHeadsV
  refine ev_allp (fun k i => impl_areHeads.l0 k z (l.map Head.t) (l.length : Int) i a b c d e) l.length _ (fun n hn hp r hr => ?_) (fun n hn hp => ?_) ?_ l.length 0 (by omega)
  · rw [getD_in hn] at hp
    refine ev_step ?_
    simp only [impl_areHeads.l0, impl_areHeads.l0b, List.length_map, Int.toNat_natCast, head_at hn, Head.c0, Head.c1, Head.c2, Head.c3, Head.c3z, Head.c4, Head.c4z, Head.c5, Head.c6, Head.c7, Head.c7z, Head.c8, Head.c8z, Head.c9, Head.c9z, succ_nat n (by omega)]
    exact ev_pos (by omega) (ev_pos (by omega) (ev_pos (by omega) (Ev.bind (impl_HeadOk.ev a b c d e ha _ (hl.2 _ (List.getElem_mem hn))) (ev_neg (by simp [hp]) hr))))
  · rw [getD_in hn] at hp
    refine ev_step ?_
    simp only [impl_areHeads.l0, impl_areHeads.l0b, List.length_map, Int.toNat_natCast, head_at hn, Head.c0, Head.c1, Head.c2, Head.c3, Head.c3z, Head.c4, Head.c4z, Head.c5, Head.c6, Head.c7, Head.c7z, Head.c8, Head.c8z, Head.c9, Head.c9z, succ_nat n (by omega)]
    exact ev_pos (by omega) (ev_pos (by omega) (ev_pos (by omega) (Ev.bind (impl_HeadOk.ev a b c d e ha _ (hl.2 _ (List.getElem_mem hn))) (ev_pos (by simp [hp]) (ev_some rfl)))))
  · refine ev_step ?_
    simp only [impl_areHeads.l0, impl_areHeads.l0b]
    exact ev_neg (by omega) (ev_some rfl)
def linksAt (a b c d e : Int) (l : List Head) (i : Nat) : Bool := links a b c d e (l.getD (i - 1) default) (l.getD i default)
def chainCode (a b c d e : Int) (l : List Head) : Int := if l.length = 0 then 1 else if areHeadsV a b c d e l = true then (if allFrom (linksAt a b c d e l) 1 (l.length - 1) = true then 0 else 4) else 1
theorem head_prev' {l : List Head} {n : Nat} (h : n < l.length) (h0 : 0 < n) : ((l.map Head.t).getD (n - 1) .bad) = (l.getD (n - 1) default).t := by
  rw [head_at (by omega), getD_in (by omega)]
theorem impl_ChainCode.ev1 (a b c d e : Int) (ha : i64r a) (z : Bool) (l : List Head) (hl : NiceH l) : ∀ (m n : Nat), 1 ≤ n → n + m = l.length → Ev (fun k => impl_ChainCode.l0 k z (l.map Head.t) (n : Int) a b c d e) (if allFrom (linksAt a b c d e l) n m = true then 0 else 4)
  | 0, n, h0, hn => by
    refine ev_step ?_
    simp only [impl_ChainCode.l0, impl_ChainCode.l0b, List.length_map]
    exact ev_neg (by omega) (ev_some rfl)
  | m + 1, n, h0, hn => by
    have hN := hl.1
    have hlt : n < l.length := by omega
    have hp : (l.getD (n - 1) default).nice := by rw [getD_in (by omega)]; exact hl.2 _ (List.getElem_mem (by omega))
    refine ev_step ?_
    simp only [impl_ChainCode.l0, impl_ChainCode.l0b, List.length_map]
    rw [w64p (by omega) (by omega)]
    simp only [head_prev' hlt (by omega), Int.toNat_natCast, head_at hlt, Head.c0, Head.c1, Head.c2, Head.c3, Head.c3z, Head.c4, Head.c4z, Head.c5, Head.c6, Head.c7, Head.c7z, Head.c8, Head.c8z, Head.c9, Head.c9z, succ_nat n (by omega)]
    refine ev_pos (by omega) (ev_pos (by omega) (ev_pos (by omega) (ev_pos (by omega) (ev_pos (by omega) (Ev.bind (impl_Links.ev a b c d e ha _ _ hp (hl.2 _ (List.getElem_mem hlt))) (ev_ite (fun q => ev_some ?_) (fun q => ev_to (impl_ChainCode.ev1 a b c d e ha z l hl m (n + 1) (by omega) (by omega)) ?_)))))))
    · have : linksAt a b c d e l n = false := by unfold linksAt; rw [getD_in hlt]; simpa using q
      simp [allFrom, this]
    · have : linksAt a b c d e l n = true := by unfold linksAt; rw [getD_in hlt]; simpa using q
      simp [allFrom, this]
theorem impl_ChainCode.ev (a b c d e : Int) (ha : i64r a) (z : Bool) (l : List Head) (hl : NiceH l) : Ev (fun k => impl_ChainCode.f k a b c d e z (l.map Head.t)) (chainCode a b c d e l) := by
  refine ev_step ?_
  simp only [impl_ChainCode.f, impl_ChainCode.b, List.length_map]
  unfold chainCode
  refine ev_ite (fun c0 => ev_some (by rw [if_pos (by omega)])) (fun c0 => ?_)
  rw [if_neg (by omega)]
  refine Ev.bind (impl_areHeads.ev a b c d e ha z l hl) (ev_ite (fun c1 => ev_some (by rw [if_neg (by simpa using c1)])) (fun c1 => ?_))
  rw [if_pos (by simpa using c1)]
  exact impl_ChainCode.ev1 a b c d e ha z l hl (l.length - 1) 1 (by omega) (by omega)

end Go.Proofs.YtbpcnodmgphinaaG
namespace Go.Proofs.YtbpcnodmgphinaaG
open Go Go.Proofs.YtbpcnodmgphinaaRv Go.RowKit
set_option linter.unusedVariables false
set_option linter.unusedSimpArgs false


def cnt {α : Type} (w : α → Nat) (l : List α) : Nat := (l.map w).sum
def byW (b : By) : Nat := b.l.length
def QcV.w (q : QcV) : Nat := q.blk.length + q.bits.length + cnt byW q.tags

def zeroQc : QcV := ⟨0, 0, true, [], true, [], true, []⟩
def qcTag (l : List Row) (view height : Int) (blk : List Int) (i : Int) : By := ⟨(signVote l view height blk i).2.2.2.2.2.1, (signVote l view height blk i).2.2.2.2.2.2.1⟩
def qcDraft (l : List Row) (view height : Int) (blk bits : List Int) : QcV := ⟨view, height, false, blk, false, bits, (bitsList bits).isEmpty, (bitsList bits).map (qcTag l view height blk)⟩
def buildQc (a b c d e : Int) (l : List Row) (view height : Int) (blk bits : List Int) : QcV × Bool :=
  if belongs a b c d e l = true ∧ bitsOk bits a = true ∧ qcOk a b c d e (qcDraft l view height blk bits) = true then (qcDraft l view height blk bits, true) else (zeroQc, false)
theorem qcTag_ok (l : List Row) (view height : Int) (blk : List Int) (i : Int) : (qcTag l view height blk i).l.length ≤ 32 ∧ bytesOk (qcTag l view height blk i).l := by
  unfold qcTag signVote
  split
  · exact ⟨Nat.le_of_eq (mac_spec _ _).1, (mac_spec _ _).2⟩
  · exact ⟨by simp [noVote], fun x hx => by simp [noVote] at hx⟩
theorem draft_nice (l : List Row) (view height : Int) {blk bits : List Int} (hb : niceB blk) (hm : niceB bits) (hs : bits.length ≤ 2) : (qcDraft l view height blk bits).nice := by
  have hL := bitsList_length bits
  refine ⟨⟨hb.1, hm.1, ?_, fun x hx => ?_⟩, hb.2, hm.2, fun x hx => ?_⟩
  · show ((bitsList bits).map _).length ≤ 1048576
    rw [List.length_map]; omega
  · obtain ⟨i, _, rfl⟩ := List.mem_map.1 hx
    have := (qcTag_ok l view height blk i).1
    show _ ≤ _
    omega
  · obtain ⟨i, _, rfl⟩ := List.mem_map.1 hx
    exact (qcTag_ok l view height blk i).2
theorem isEmpty_take {α : Type} {l : List α} {n : Nat} (h : n < l.length) : (l.take (n + 1)).isEmpty = false := by
  cases l with
  | nil => simp at h
  | cons x t => rfl
theorem spec_BuildQc.ev (a b c d e : Int) (ha : i64r a) (z : Bool) (l : List Row) (hl : Rows l) (view height : Int) (y : Bool) (blk : List Int) (hb : niceB blk) (x : Bool) (bits : List Int) (hm : niceB bits) : Ev (fun k => spec_BuildQc.f k a b c d e z (l.map Row.t) view height y blk x bits) ((buildQc a b c d e l view height blk bits).1.v, (buildQc a b c d e l view height blk bits).1.h, (buildQc a b c d e l view height blk bits).1.bz, (buildQc a b c d e l view height blk bits).1.blk, (buildQc a b c d e l view height blk bits).1.mz, (buildQc a b c d e l view height blk bits).1.bits, (buildQc a b c d e l view height blk bits).1.tz, (buildQc a b c d e l view height blk bits).1.tags.map By.t, (buildQc a b c d e l view height blk bits).2) := by
  refine ev_step ?_
  simp only [spec_BuildQc.f, spec_BuildQc.b]
  refine Ev.bind (spec_l23Goes.ev _ _ _ _ _ _ _ hl.few) (ev_ite (fun c0 => ev_some ?_) (fun c0 => ?_))
  · have : ¬ belongs a b c d e l = true := by simpa using c0
    unfold buildQc; rw [if_neg fun h => this h.1]; rfl
  have c0 : belongs a b c d e l = true := by simpa using c0
  refine Ev.bind (spec_BitsOk.ev _ _ _ hm ha) (ev_ite (fun c1 => ev_some ?_) (fun c1 => ?_))
  · have : ¬ bitsOk bits a = true := by simpa using c1
    unfold buildQc; rw [if_neg fun h => this h.2.1]; rfl
  have c1 : bitsOk bits a = true := by simpa using c1
  have hs := bitsOk_len c1
  have hL := bitsList_length bits
  have hN := draft_nice l view height hb hm hs
  refine Ev.bind (spec_l01Copy.ev _ _ (Nat.le_trans hb.1 (by decide))) (Ev.bind (spec_l01Copy.ev _ _ (Nat.le_trans hm.1 (by decide))) (Ev.bind (spec_BitsList.ev _ _ hm) ?_))
  have key : ∀ (q n : Nat), n + q = (bitsList bits).length → Ev (fun k => spec_BuildQc.l0 k view height y blk false (bitsList bits) ((bitsList bits).length : Int) (n : Int) a b c d e z (l.map Row.t) view height false blk false bits (((bitsList bits).take n).isEmpty) ((((bitsList bits).take n).map (qcTag l view height blk)).map By.t)) ((buildQc a b c d e l view height blk bits).1.v, (buildQc a b c d e l view height blk bits).1.h, (buildQc a b c d e l view height blk bits).1.bz, (buildQc a b c d e l view height blk bits).1.blk, (buildQc a b c d e l view height blk bits).1.mz, (buildQc a b c d e l view height blk bits).1.bits, (buildQc a b c d e l view height blk bits).1.tz, (buildQc a b c d e l view height blk bits).1.tags.map By.t, (buildQc a b c d e l view height blk bits).2) := by
    intro q
    induction q with
    | zero =>
      intro n hn
      refine ev_step ?_
      simp only [spec_BuildQc.l0, spec_BuildQc.l0b]
      rw [List.take_of_length_le (by omega)]
      refine ev_neg (by omega) (Ev.bind (spec_QcOk.ev a b c d e (qcDraft l view height blk bits) hN ha) (ev_ite (fun c2 => ev_some ?_) (fun c2 => ev_some ?_)))
      · have : ¬ qcOk a b c d e (qcDraft l view height blk bits) = true := by simpa using c2
        unfold buildQc; rw [if_neg fun h => this h.2.2]; rfl
      · have : qcOk a b c d e (qcDraft l view height blk bits) = true := by simpa using c2
        unfold buildQc; rw [if_pos ⟨c0, c1, this⟩]; rfl
    | succ q ih =>
      intro n hn
      have hlt : n < (bitsList bits).length := by omega
      have i2 := ih (n + 1) (by omega)
      rw [isEmpty_take hlt, List.take_succ_eq_append_getElem hlt, List.map_append, List.map_append] at i2
      refine ev_step ?_
      simp only [spec_BuildQc.l0, spec_BuildQc.l0b]
      rw [rd_nat hlt, succ_nat n (by omega)]
      exact ev_pos (by omega) (ev_pos (by omega) (ev_pos (by omega) (Ev.bind (spec_SignVote.ev _ _ hl _ _ _ _ hb.1 hb.2 _) (ev_pos (by simp; omega) i2))))
  exact key (bitsList bits).length 0 (by omega)

end Go.Proofs.YtbpcnodmgphinaaG
namespace Go.Proofs.YtbpcnodmgphinaaG
open Go Go.Proofs.YtbpcnodmgphinaaRv Go.RowKit
set_option linter.unusedVariables false
set_option linter.unusedSimpArgs false

def bitsNew (n : Int) : Bool × List Int := if 1 ≤ n ∧ n ≤ 10 then (false, List.replicate (bitsSize n).toNat 0) else (true, [])
theorem spec_BitsNew.evg (n : Int) (hn : i64r n) : Ev (fun k => spec_BitsNew.f k n) (bitsNew n) := by
  by_cases h : 1 ≤ n ∧ n ≤ 10
  · have := spec_BitsNew.ev n.toNat (by omega) (by omega)
    rw [show ((n.toNat : Nat) : Int) = n by omega] at this
    exact ev_to this (if_pos h).symm
  · refine ev_step ?_
    simp only [spec_BitsNew.f, spec_BitsNew.b]
    exact Ev.bind (spec_l02Signers.ev _) (ev_pos (by simpa using h) (ev_some (if_neg h).symm))
theorem zeros_ok (m : Nat) : bytesOk (List.replicate m 0) := fun x hx => by
  have := List.eq_of_mem_replicate hx
  omega
theorem bitsNew_ok (n : Int) : okB (bitsNew n).2 ∧ bytesOk (bitsNew n).2 := by
  unfold bitsNew
  split
  · rename_i h
    have := bitsSize_bd (n := n.toNat) (by omega) (by omega)
    rw [show ((n.toNat : Nat) : Int) = n by omega] at this
    exact ⟨by show (List.replicate _ _).length ≤ _; rw [List.length_replicate]; omega, zeros_ok _⟩
  · exact ⟨by simp [okB], fun x hx => by simp at hx⟩
def zeroHead : Head := ⟨0, 0, 0, true, [], true, [], zeroQc⟩
def draftHead (a view : Int) (root : List Int) : Head := ⟨view, 1, 0, false, List.replicate 32 0, false, root, ⟨0, 0, false, List.replicate 32 0, (bitsNew a).1, (bitsNew a).2, true, []⟩⟩
def firstHead (a b c d e : Int) (l : List Row) (view : Int) (root : List Int) : Head × Bool :=
  if belongs a b c d e l = true ∧ headOk a b c d e (draftHead a view root) = true then (draftHead a view root, true) else (zeroHead, false)
theorem draftHead_nice (a view : Int) {root : List Int} (hr : niceB root) : (draftHead a view root).nice := by
  obtain ⟨b1, b2⟩ := bitsNew_ok a
  exact ⟨⟨by simp [draftHead, okB], hr.1, by simp [draftHead, okB], b1, by simp [draftHead, FewB]⟩, zeros_ok _, hr.2, zeros_ok _, b2, fun x hx => by simp [draftHead] at hx⟩
def headTup (x : Head) (ok : Bool) : Int × Int × Int × Bool × List Int × Bool × List Int × Int × Int × Bool × List Int × Bool × List Int × Bool × List T × Bool := (x.v, x.h, x.p, x.az, x.par, x.rz, x.root, x.q.v, x.q.h, x.q.bz, x.q.blk, x.q.mz, x.q.bits, x.q.tz, x.q.tags.map By.t, ok)
theorem spec_FirstHead.ev (a b c d e : Int) (ha : i64r a) (z : Bool) (l : List Row) (hl : Rows l) (view : Int) (y : Bool) (root : List Int) (hr : niceB root) : Ev (fun k => spec_FirstHead.f k a b c d e z (l.map Row.t) view y root) (headTup (firstHead a b c d e l view root).1 (firstHead a b c d e l view root).2) := by
  refine ev_step ?_
  simp only [spec_FirstHead.f, spec_FirstHead.b]
  refine Ev.bind (spec_l01Copy.ev _ _ (Nat.le_trans hr.1 (by decide))) (Ev.bind (spec_BitsNew.evg a ha) (Ev.bind (spec_l23Goes.ev _ _ _ _ _ _ _ hl.few) (ev_ite (fun c0 => ev_some ?_) (fun c0 => ?_))))
  · have : ¬ belongs a b c d e l = true := by simpa using c0
    unfold firstHead; rw [if_neg fun h => this h.1]; rfl
  have c0 : belongs a b c d e l = true := by simpa using c0
  refine Ev.bind (spec_HeadOk.ev a b c d e ha (draftHead a view root) (draftHead_nice a view hr)) (ev_ite (fun c1 => ev_some ?_) (fun c1 => ev_some ?_))
  · have : ¬ headOk a b c d e (draftHead a view root) = true := by simpa using c1
    unfold firstHead; rw [if_neg fun h => this h.2]; rfl
  · have : headOk a b c d e (draftHead a view root) = true := by simpa using c1
    unfold firstHead; rw [if_pos ⟨c0, this⟩]; rfl
def Head.w (x : Head) : Nat := x.par.length + x.root.length + x.q.w
end Go.Proofs.YtbpcnodmgphinaaG
namespace Go.Proofs.YtbpcnodmgphinaaG
open Go Go.Proofs.YtbpcnodmgphinaaRv Go.RowKit
set_option linter.unusedVariables false
set_option linter.unusedSimpArgs false


def fixB : Nat → Nat → List Int
  | 0, _ => []
  | s + 1, k => ((k % 256 : Nat) : Int) :: fixB s (k / 256)
theorem spec_l01Top.ev (w : Nat) (h : w ≤ 2) : Ev (fun k => spec_l01Top.f k (w : Int)) ((256 ^ w : Nat) : Int) := by
  refine ev_step ?_
  simp only [spec_l01Top.f, spec_l01Top.b]
  rw [w64 (by omega) (by omega)]
  refine ev_pos (by omega) (ev_some ?_)
  match w, h with
  | 0, _ => decide
  | 1, _ => decide
  | 2, _ => decide
theorem spec_PutFix.ev0 (s : Nat) (hs : s ≤ 2) : ∀ (d i k : Nat) (acc : List Int) (z : Bool), i + d = s → acc.length + d ≤ 10 → k < 70000 → (d = 0 → z = false) → Ev (fun n => spec_PutFix.l0 n (k : Int) (s : Int) z acc (i : Int)) (false, acc ++ fixB d k, true) := by
  intro d
  induction d with
  | zero =>
    intro i k acc z hi ha hk hz
    refine ev_step ?_
    simp only [spec_PutFix.l0, spec_PutFix.l0b]
    refine ev_neg (by omega) (ev_some ?_)
    rw [hz rfl, fixB, List.append_nil]
  | succ d ih =>
    intro i k acc z hi ha hk hz
    have e1 : wrap64 (Int.tdiv (k : Int) 256) = ((k / 256 : Nat) : Int) := by rw [show (256 : Int) = ((256 : Nat) : Int) by rfl, tdiv_nat, w64n (by omega)]
    have e2 : Int.tmod (k : Int) 256 % 256 = ((k % 256 : Nat) : Int) := by
      have : Int.tmod (k : Int) 256 = (k : Int) % 256 := Int.tmod_eq_emod_of_nonneg (by omega)
      rw [this]; omega
    have i2 := ih (i + 1) (k / 256) (acc ++ [((k % 256 : Nat) : Int)]) false (by omega) (by simp; omega) (by omega) (fun _ => rfl)
    refine ev_step ?_
    simp only [spec_PutFix.l0, spec_PutFix.l0b, e1, e2, succ_nat i (by omega)]
    refine ev_pos (by omega) (ev_pos (by omega) (ev_to i2 ?_))
    rw [fixB]
    simp
theorem spec_PutFix.ev (s k : Nat) (h1 : 1 ≤ s) (h2 : s ≤ 2) (hk : k < 256 ^ s) : Ev (fun n => spec_PutFix.f n true [] (k : Int) (s : Int)) (false, fixB s k, true) := by
  have hp : 256 ^ s ≤ 256 ^ 2 := Nat.pow_le_pow_right (by decide) h2
  refine ev_step ?_
  simp only [spec_PutFix.f, spec_PutFix.b]
  refine Ev.bind (spec_l01In.ev _ _ _) (ev_neg (by simp; omega) (ev_neg (by omega) (Ev.bind (spec_l01Top.ev s h2) (ev_neg (by omega) (Ev.bind (spec_l01Copy.ev true [] (by simp)) ?_)))))
  have := spec_PutFix.ev0 s h2 s 0 k [] false (by omega) (by simp; omega) (by omega) (fun h => by omega)
  rw [List.nil_append] at this
  exact this
end Go.Proofs.YtbpcnodmgphinaaG
namespace Go.Proofs.YtbpcnodmgphinaaG
open Go Go.Proofs.YtbpcnodmgphinaaRv Go.RowKit
set_option linter.unusedVariables false
set_option linter.unusedSectionVars false
set_option linter.unusedSimpArgs false

section
variable (z : Bool) (l : List Int) (h : l.length ≤ 1048576)
include h
theorem spec_l01New.ex0 : ∀ (d n : Nat) (s : Int), n + d = l.length → ∃ s', Ev (fun k => spec_l01New.l0 k z l s (n : Int)) (z, l, 0, s')
  | 0, n, s, hn => by
    refine ⟨s, ev_step ?_⟩
    simp only [spec_l01New.l0, spec_l01New.l0b]
    exact ev_neg (by omega) (ev_some rfl)
  | d + 1, n, s, hn => by
    by_cases c : n < 4000
    · obtain ⟨s', e⟩ := spec_l01New.ex0 d (n + 1) (Go.bits .and .i64 (wrap64 ((wrap64 ((wrap64 (s * 37)) + (wrap64 (rdI l (n : Int))))) + 7)) 1073741823) (by omega)
      refine ⟨s', ev_step ?_⟩
      simp only [spec_l01New.l0, spec_l01New.l0b]
      refine ev_pos (by omega) (ev_pos (by omega) (ev_pos (by omega) (ev_pos (by omega) ?_)))
      rw [w64s (by omega)]
      exact e
    · refine ⟨s, ev_step ?_⟩
      simp only [spec_l01New.l0, spec_l01New.l0b]
      exact ev_pos (by omega) (ev_neg (by omega) (ev_some rfl))
theorem spec_l01New.ex : ∃ s, Ev (fun k => spec_l01New.f k z l) (z, l, 0, s) := by
  obtain ⟨s, e⟩ := spec_l01New.ex0 z l h l.length 0 (wrap64 ((1611 : Int) + (l.length : Int))) (by omega)
  refine ⟨s, ev_step ?_⟩
  simp only [spec_l01New.f, spec_l01New.b]
  exact e
theorem spec_l01Byte.ex (p s : Int) (hp : 0 ≤ p) : ∃ b p' s', Ev (fun k => spec_l01Byte.f k z l p s) (b, z, l, p', s') ∧ 0 ≤ b ∧ b ≤ 255 ∧ 0 ≤ p' := by
  by_cases c : p < (l.length : Int)
  · refine ⟨Go.bits .and .i64 (wrap64 (Go.bits .and .i64 (Go.bits .xor .i64 (shrI .i64 (wrap64 ((wrap64 (s * 6364136223846793005)) + 1442695040888963407)) 33) (shrI .i64 (wrap64 ((wrap64 (s * 6364136223846793005)) + 1442695040888963407)) 45)) 255 + wrap64 (rdI l p))) 255, wrap64 (p + 1), wrap64 ((wrap64 (s * 6364136223846793005)) + 1442695040888963407), ev_step ?_, (and255 _).1, (and255 _).2, by rw [w64 (by omega) (by omega)]; omega⟩
    simp only [spec_l01Byte.f, spec_l01Byte.b]
    exact ev_pos c (ev_pos hp (ev_pos c (ev_some rfl)))
  · refine ⟨Go.bits .and .i64 (Go.bits .xor .i64 (shrI .i64 (wrap64 ((wrap64 (s * 6364136223846793005)) + 1442695040888963407)) 33) (shrI .i64 (wrap64 ((wrap64 (s * 6364136223846793005)) + 1442695040888963407)) 45)) 255, p, wrap64 ((wrap64 (s * 6364136223846793005)) + 1442695040888963407), ev_step ?_, (and255 _).1, (and255 _).2, hp⟩
    simp only [spec_l01Byte.f, spec_l01Byte.b]
    exact ev_neg c (ev_some rfl)
theorem spec_l01Below.ex (p s n : Int) (hp : 0 ≤ p) : ∃ b p' s', Ev (fun k => spec_l01Below.f k z l p s n) (b, z, l, p', s') ∧ 0 ≤ p' ∧ (0 < n → 0 ≤ b ∧ b < n) ∧ (n ≤ 0 → b = 0) := by
  by_cases c : n ≤ 0
  · refine ⟨0, p, s, ev_step ?_, hp, by omega, fun _ => rfl⟩
    simp only [spec_l01Below.f, spec_l01Below.b]
    exact ev_pos c (ev_some rfl)
  · by_cases d : n ≤ 256
    · obtain ⟨b, p1, s1, e, b0, b1, hp1⟩ := spec_l01Byte.ex z l h p s hp
      refine ⟨Int.tmod b n, p1, s1, ev_step ?_, hp1, fun hn => ⟨Int.tmod_nonneg _ b0, Int.tmod_lt_of_pos _ hn⟩, by omega⟩
      simp only [spec_l01Below.f, spec_l01Below.b]
      exact ev_neg c (ev_pos d (Ev.bind e (by simp only [Bool.not_eq_true', decide_eq_false_iff_not]; rw [show decide (n = 0) = false from decide_eq_false (by omega)]; exact ev_some rfl)))
    · obtain ⟨b1, p1, s1, e1, b10, b11, hp1⟩ := spec_l01Byte.ex z l h p s hp
      obtain ⟨b2, p2, s2, e2, b20, b21, hp2⟩ := spec_l01Byte.ex z l h p1 s1 hp1
      obtain ⟨b3, p3, s3, e3, b30, b31, hp3⟩ := spec_l01Byte.ex z l h p2 s2 hp2
      obtain ⟨b4, p4, s4, e4, b40, b41, hp4⟩ := spec_l01Byte.ex z l h p3 s3 hp3
      refine ⟨Int.tmod (b1 * 16777216 + b2 * 65536 + b3 * 256 + b4) n, p4, s4, ev_step ?_, hp4, fun hn => ⟨Int.tmod_nonneg _ (by omega), Int.tmod_lt_of_pos _ hn⟩, by omega⟩
      simp only [spec_l01Below.f, spec_l01Below.b]
      refine ev_neg c (ev_neg d (Ev.bind e1 (Ev.bind e2 (Ev.bind e3 (Ev.bind e4 ?_)))))
      simp only
      rw [show decide (n = 0) = false from decide_eq_false (by omega), w64 (n := b1 * 16777216) (by omega) (by omega), w64 (n := b2 * 65536) (by omega) (by omega), w64 (n := b3 * 256) (by omega) (by omega), w64 (n := b1 * 16777216 + b2 * 65536) (by omega) (by omega), w64 (n := b1 * 16777216 + b2 * 65536 + b3 * 256) (by omega) (by omega), w64 (by omega) (by omega)]
      exact ev_some rfl
theorem spec_l01Pick.ex (p s : Int) (y : Bool) (xs : List Int) (hp : 0 ≤ p) (hx : 0 < xs.length) : ∃ b p' s', Ev (fun k => spec_l01Pick.f k z l p s y xs) (b, z, l, p', s') ∧ 0 ≤ p' ∧ b ∈ xs := by
  obtain ⟨b, p1, s1, e, hp1, hb, _⟩ := spec_l01Below.ex z l h p s (xs.length : Int) hp
  obtain ⟨b0, b1⟩ := hb (by omega)
  refine ⟨rdI xs b, p1, s1, ev_step ?_, hp1, ?_⟩
  · simp only [spec_l01Pick.f, spec_l01Pick.b]
    exact Ev.bind e (ev_pos b0 (ev_pos b1 (ev_some rfl)))
  · obtain ⟨m, rfl⟩ := Int.eq_ofNat_of_zero_le b0
    rw [rdI_nat (by omega)]
    exact List.getElem_mem _
theorem spec_l10Draw.ex (p s : Int) (hp : 0 ≤ p) : ∃ n tx txs fr hd p' s', Ev (fun k => spec_l10Draw.f k z l p s) (n, tx, txs, fr, hd, z, l, p', s') ∧ 0 ≤ p' ∧ (1 ≤ n ∧ n ≤ 10) ∧ (0 ≤ tx ∧ tx ≤ 40) ∧ (0 ≤ txs ∧ txs ≤ 8) ∧ (60 ≤ fr ∧ fr ≤ 4000) ∧ (3 ≤ hd ∧ hd ≤ 5) := by
  obtain ⟨n, p1, s1, e1, hp1, h1⟩ := spec_l01Pick.ex z l h p s false ([1, 3, 4, 4, 7, 9, 10] : List Int) hp (by decide)
  obtain ⟨tx, p2, s2, e2, hp2, h2⟩ := spec_l01Pick.ex z l h p1 s1 false ([0, 4, 8, 40] : List Int) hp1 (by decide)
  obtain ⟨txs, p3, s3, e3, hp3, h3⟩ := spec_l01Pick.ex z l h p2 s2 false ([0, 3, 8] : List Int) hp2 (by decide)
  obtain ⟨fr, p4, s4, e4, hp4, h4⟩ := spec_l01Pick.ex z l h p3 s3 false ([4000, 4000, 300, 60] : List Int) hp3 (by decide)
  obtain ⟨hd, p5, s5, e5, hp5, h5, _⟩ := spec_l01Below.ex z l h p4 s4 3 hp4
  have h5 := h5 (by decide)
  simp only [List.mem_cons, List.not_mem_nil, or_false] at h1 h2 h3 h4
  refine ⟨n, tx, txs, fr, (wrap64 ((3 : Int) + hd)), p5, s5, ev_step ?_, hp5, by omega, by omega, by omega, by omega, by rw [w64 (by omega) (by omega)]; omega⟩
  simp only [spec_l10Draw.f, spec_l10Draw.b]
  exact Ev.bind e1 (Ev.bind e2 (Ev.bind e3 (Ev.bind e4 (Ev.bind e5 (ev_some rfl)))))
end
def rowDrawn (r : Row) : Prop := (1 ≤ r.f0 ∧ r.f0 ≤ 1099511627776) ∧ r.f1.length = 3 ∧ bytesOk r.f1
theorem spec_l21Draw.ex0 (z : Bool) (l : List Int) (h : l.length ≤ 1048576) (n : Nat) (hn : n ≤ 10) : ∀ (d i : Nat) (p s : Int) (y : Bool) (rows : List Row), i + d = n → rows.length = i → (∀ r ∈ rows, rowDrawn r) → 0 ≤ p → ∃ (y' : Bool) (rows' : List Row) (p' s' : Int), Ev (fun k => spec_l21Draw.l0 k (n : Int) (i : Int) z l p s y (rows.map Row.t)) (y', rows'.map Row.t, z, l, p', s') ∧ rows'.length = n ∧ (∀ r ∈ rows', rowDrawn r) ∧ 0 ≤ p'
  | 0, i, p, s, y, rows, hi, hr, ha, hp => by
    refine ⟨y, rows, p, s, ev_step ?_, by omega, ha, hp⟩
    simp only [spec_l21Draw.l0, spec_l21Draw.l0b]
    exact ev_neg (by omega) (ev_some rfl)
  | d + 1, i, p, s, y, rows, hi, hr, ha, hp => by
    obtain ⟨b, p1, s1, e1, hp1, h1, _⟩ := spec_l01Below.ex z l h p s 9 hp
    have h1 := h1 (by decide)
    obtain ⟨wt, p2, s2, e2, hp2, h2⟩ := spec_l01Pick.ex z l h p1 s1 false ([1, 1, 1, 2, 5, 1099511627776, wrap64 (1 + b)] : List Int) hp1 (by simp)
    obtain ⟨c, p3, s3, e3, hp3, h3, _⟩ := spec_l01Below.ex z l h p2 s2 9 hp2
    have h3 := h3 (by decide)
    have hw : 1 ≤ wt ∧ wt ≤ 1099511627776 := by
      rw [w64 (by omega) (by omega)] at h2
      simp only [List.mem_cons, List.not_mem_nil, or_false] at h2
      omega
    obtain ⟨y', rows', p', s', e, q1, q2, q3⟩ := spec_l21Draw.ex0 z l h n hn d (i + 1) p3 s3 false (rows ++ [⟨wt, false, [((i : Int)) % 256, c % 256, 1]⟩]) (by omega) (by simp; omega) (fun r hr' => by
      rcases List.mem_append.1 hr' with hr' | hr'
      · exact ha r hr'
      · rw [List.mem_singleton.1 hr']
        refine ⟨hw, rfl, fun x hx => ?_⟩
        simp only [List.mem_cons, List.not_mem_nil, or_false] at hx
        omega) hp3
    refine ⟨y', rows', p', s', ev_step ?_, q1, q2, q3⟩
    simp only [spec_l21Draw.l0, spec_l21Draw.l0b, List.length_map]
    refine ev_pos (by omega) (Ev.bind e1 (Ev.bind e2 (Ev.bind e3 (ev_pos (by omega) ?_))))
    rw [w64s (by omega)]
    rw [List.map_append] at e
    exact e
theorem spec_l21Draw.ex (z : Bool) (l : List Int) (h : l.length ≤ 1048576) (p s : Int) (hp : 0 ≤ p) (n : Nat) (hn : n ≤ 10) : ∃ (y : Bool) (rows : List Row) (p' s' : Int), Ev (fun k => spec_l21Draw.f k z l p s (n : Int)) (y, rows.map Row.t, z, l, p', s') ∧ rows.length = n ∧ (∀ r ∈ rows, rowDrawn r) ∧ 0 ≤ p' := by
  obtain ⟨y, rows, p', s', e, r⟩ := spec_l21Draw.ex0 z l h n hn n 0 p s true [] (by omega) rfl (by simp) hp
  refine ⟨y, rows, p', s', ev_step ?_, r⟩
  simp only [spec_l21Draw.f, spec_l21Draw.b]
  exact e
theorem drawn_ok {rows : List Row} (h : ∀ r ∈ rows, rowDrawn r) (h1 : 1 ≤ rows.length) (h2 : rows.length ≤ 10) : tabOk rows = true := tabOk_iff.2 ⟨fun r hr => ⟨(h r hr).1, by have := (h r hr).2.1; omega⟩, h1, h2⟩
theorem drawn_rows {rows : List Row} (h : ∀ r ∈ rows, rowDrawn r) (h2 : rows.length ≤ 10) : Rows rows := ⟨by omega, fun r hr => ⟨by have := (h r hr).2.1; omega, (h r hr).2.2⟩⟩
theorem spec_l23Pair.ex (z : Bool) (l : List Int) (h : l.length ≤ 1048576) (p s : Int) (hp : 0 ≤ p) : ∃ (n : Nat) (tx txs hd : Int) (y : Bool) (rows : List Row) (p' s' : Int), Ev (fun k => spec_l23Pair.f k z l p s) ((n : Int), tx, txs, 4000, hd, y, rows.map Row.t, z, l, p', s') ∧ (1 ≤ n ∧ n ≤ 5) ∧ (0 ≤ tx ∧ tx ≤ 40) ∧ (0 ≤ txs ∧ txs ≤ 8) ∧ (3 ≤ hd ∧ hd ≤ 5) ∧ rows.length = n ∧ (∀ r ∈ rows, rowDrawn r) ∧ 0 ≤ p' := by
  obtain ⟨n0, tx, txs, fr, hd, p1, s1, e1, hp1, _, h2, h3, _, h5⟩ := spec_l10Draw.ex z l h p s hp
  obtain ⟨b, p2, s2, e2, hp2, hb, _⟩ := spec_l01Below.ex z l h p1 s1 5 hp1
  have hb := hb (by decide)
  obtain ⟨m, rfl⟩ := Int.eq_ofNat_of_zero_le hb.1
  obtain ⟨y, rows, p3, s3, e3, q1, q2, q3⟩ := spec_l21Draw.ex z l h p2 s2 hp2 (m + 1) (by omega)
  refine ⟨m + 1, tx, txs, hd, y, rows, p3, s3, ev_step ?_, by omega, h2, h3, h5, q1, q2, q3⟩
  have em : wrap64 (1 + (m : Int)) = ((m + 1 : Nat) : Int) := by rw [w64 (by omega) (by omega)]; omega
  simp only [spec_l23Pair.f, spec_l23Pair.b]
  refine Ev.bind e1 (Ev.bind e2 ?_)
  simp only [em]
  exact Ev.bind e3 (ev_some rfl)
theorem set_ok {b : List Int} (hb : bytesOk b) (i : Nat) (x : Int) : bytesOk (b.set i (x % 256)) := fun y hy => by
  rcases List.mem_or_eq_of_mem_set hy with h | h
  · exact hb y h
  · omega
theorem z32_ok : bytesOk (List.replicate 32 0) := fun y hy => by rw [List.eq_of_mem_replicate hy]; omega
theorem spec_l11Hash.ex (z : Bool) (l : List Int) (h : l.length ≤ 1048576) (p s : Int) (hp : 0 ≤ p) : ∃ b p' s', Ev (fun k => spec_l11Hash.f k z l p s) (false, b, z, l, p', s') ∧ b.length = 32 ∧ bytesOk b ∧ 0 ≤ p' := by
  obtain ⟨b, p1, s1, e1, hp1, _⟩ := spec_l01Below.ex z l h p s 3 hp
  obtain ⟨c, p2, s2, e2, _, _, hp2⟩ := spec_l01Byte.ex z l h p1 s1 hp1
  refine ⟨(((List.replicate 32 0).set 0 (b % 256)).set 31 (c % 256)), p2, s2, ev_step ?_, by simp, set_ok (set_ok (z32_ok) _ _) _ _, hp2⟩
  simp only [spec_l11Hash.f, spec_l11Hash.b]
  exact Ev.bind e1 (ev_pos (by simp) (Ev.bind e2 (ev_pos (by simp) (ev_some rfl))))
end Go.Proofs.YtbpcnodmgphinaaG
namespace Go.Proofs.YtbpcnodmgphinaaG
open Go Go.Proofs.YtbpcnodmgphinaaRv Go.RowKit
set_option linter.unusedVariables false
set_option linter.unusedSimpArgs false

theorem voteV_yes {a b : Int} {h : List Int} (ha : isNum a = true) (hb : isNum b = true) (hh : h.length = 32) : (voteV a b h).1 = false := by
  unfold voteV
  rw [if_pos ⟨ha, hb, hh⟩]
end Go.Proofs.YtbpcnodmgphinaaG
namespace Go.Proofs.YtbpcnodmgphinaaG
open Go Go.Proofs.YtbpcnodmgphinaaRv Go.RowKit
set_option linter.unusedVariables false
set_option linter.unusedSimpArgs false


theorem signers {l : List Row} {b : List Int} (ok : bitsOk b (l.length : Int) = true) : ∀ i ∈ bitsFrom b 0 (8 * b.length), i < l.length := fun i hi => by
  have := (bitsFrom_mem b _ _ i).1 hi
  exact bitsOk_lt ok this.2
section
variable {l : List Row} (T : tabOk l = true)
include T
theorem sign_yes {v h : Int} {blk : List Int} (hv : (voteV v h blk).1 = false) {m : Nat} (hm : m < l.length) : signVote l v h blk (m : Int) = (v, h, false, blk, (m : Int), false, mac l[m].f1 (voteV v h blk).2, true) := by
  unfold signVote
  rw [if_pos ⟨T, hv, by omega, by omega⟩]
  simp [hm]
theorem sign_good {v h : Int} {blk : List Int} (hv : (voteV v h blk).1 = false) {m : Nat} (hm : m < l.length) : voteGood l v h blk (m : Int) (mac l[m].f1 (voteV v h blk).2) = true := by
  unfold voteGood
  rw [sign_yes T hv hm]
  simp [voteSame, sameB_refl]
theorem draft_votes {v h : Int} {blk b : List Int} (hv : (voteV v h blk).1 = false) (ok : bitsOk b (l.length : Int) = true) : ∀ x ∈ votesOf (qcDraft l v h blk b), vtGood l x = true ∧ x.blk = blk ∧ x.v = v ∧ x.h = h ∧ x.bz = false ∧ x.tz = false ∧ (∃ m : Nat, x.who = (m : Int) ∧ m < l.length) ∧ x.tag.length = 32 := fun x hx => by
  obtain ⟨i, hi, rfl⟩ := List.mem_map.1 hx
  have hi : i < (bitsList b).length := by simpa [qcDraft] using hi
  have hi' : i < (bitsFrom b 0 (8 * b.length)).length := by simpa [bitsList] using hi
  have hm := signers ok _ (List.getElem_mem hi')
  have e1 : (bitsList b)[i] = (((bitsFrom b 0 (8 * b.length))[i] : Nat) : Int) := by simp [bitsList]
  have e2 : (((bitsList b).map (qcTag l v h blk)).getD i default).l = mac l[(bitsFrom b 0 (8 * b.length))[i]].f1 (voteV v h blk).2 := by
    rw [getD_in (by simpa using hi)]
    rw [List.getElem_map, e1]
    unfold qcTag
    rw [sign_yes T hv hm]
  have e3 : voteAt (qcDraft l v h blk b) i = ⟨v, h, false, blk, (((bitsFrom b 0 (8 * b.length))[i] : Nat) : Int), false, mac l[(bitsFrom b 0 (8 * b.length))[i]].f1 (voteV v h blk).2⟩ := by
    show (⟨v, h, false, blk, rdI (bitsList b) (i : Int), false, (((bitsList b).map (qcTag l v h blk)).getD i default).l⟩ : Vt) = _
    rw [e2, rdI_nat hi, e1]
  rw [e3]
  exact ⟨sign_good T hv hm, rfl, rfl, rfl, rfl, rfl, ⟨_, rfl, hm⟩, (mac_spec _ _).1⟩
theorem draft_ok {a b c d e : Int} (L : limitsOk a b c d e = true) {v h : Int} {blk bits : List Int} (h1 : isNum v = true) (h2 : isNum h = true) (h3 : blk.length = 32) (ha : (l.length : Int) = a) (ok : bitsOk bits (l.length : Int) = true) : qcOk a b c d e (qcDraft l v h blk bits) = true := by
  have hv : (voteV v h blk).1 = false := voteV_yes h1 h2 h3
  unfold qcOk
  have e1 : ((qcDraft l v h blk bits).tags.length = bitCount (qcDraft l v h blk bits).bits) := by simp [qcDraft, bitsList, bitCount]
  have e2 : areH (qcDraft l v h blk bits).tags = true := areH_iff.2 fun x hx => by
    obtain ⟨i, hi, rfl⟩ := List.mem_map.1 hx
    unfold bitsList at hi
    obtain ⟨m, hm, rfl⟩ := List.mem_map.1 hi
    unfold qcTag
    rw [sign_yes T hv (signers ok m hm)]
    exact (mac_spec _ _).1
  rw [L, e2, decide_eq_true e1]
  show (true && (isNum v && (isNum h && (decide (blk.length = 32) && (bitsOk bits a && (true && true)))))) = true
  rw [h1, h2, decide_eq_true h3, ← ha, ok]
  rfl
theorem built_qc {a b c d e : Int} (L : limitsOk a b c d e = true) {v h : Int} {blk bits : List Int} (h1 : isNum v = true) (h2 : isNum h = true) (h3 : blk.length = 32) (ha : (l.length : Int) = a) (ok : bitsOk bits (l.length : Int) = true) : buildQc a b c d e l v h blk bits = (qcDraft l v h blk bits, true) := by
  have B : belongs a b c d e l = true := by unfold belongs; rw [L, T, decide_eq_true ha]; rfl
  unfold buildQc
  rw [if_pos ⟨B, by rw [← ha]; exact ok, draft_ok T L h1 h2 h3 ha ok⟩]
theorem code_qc {a b c d e : Int} (L : limitsOk a b c d e = true) {v h : Int} {blk bits : List Int} (h1 : isNum v = true) (h2 : isNum h = true) (h3 : blk.length = 32) (ha : (l.length : Int) = a) (ok : bitsOk bits (l.length : Int) = true) : qcCode a b c d e l (qcDraft l v h blk bits) = if isQuorum l bits = true then 0 else 3 := by
  have B : belongs a b c d e l = true := by unfold belongs; rw [L, T, decide_eq_true ha]; rfl
  have hv : (voteV v h blk).1 = false := voteV_yes h1 h2 h3
  unfold qcCode
  rw [if_pos B, if_pos (draft_ok T L h1 h2 h3 ha ok), if_pos (List.all_eq_true.2 fun x hx => (draft_votes T hv ok x hx).1)]
  rfl
end
section
variable {l : List Row} (T : tabOk l = true)
include T
end
end Go.Proofs.YtbpcnodmgphinaaG
namespace Go.Proofs.YtbpcnodmgphinaaG
open Go Go.Proofs.YtbpcnodmgphinaaRv Go.RowKit
set_option linter.unusedVariables false
set_option linter.unusedSimpArgs false

theorem spec_l30Full.ex (n : Nat) (h1 : 1 ≤ n) (hn : n ≤ 5) : ∃ b : List Int, Ev (fun k => spec_l30Full.f k (n : Int)) (false, b) ∧ niceB b ∧ bitsOk b (n : Int) = true ∧ ∀ j, j < n → bitAt b j = true := by
  have go : ∀ (v : Nat), v < 256 → wrap64 (shlI .i64 1 (n : Int) - 1) = (v : Int) → bitsSize (n : Int) = ((1 : Nat) : Int) → Ev (fun k => spec_l30Full.f k (n : Int)) (false, fixB 1 v) := fun v hv e es => by
    have S := spec_BitsSize.ev (n : Int) (by unfold i64r; omega)
    rw [es] at S
    refine ev_step ?_
    simp only [spec_l30Full.f, spec_l30Full.b, e]
    exact ev_pos (by omega) (Ev.bind S (Ev.bind (spec_PutFix.ev 1 v (by decide) (by decide) (by simpa using hv)) (ev_some rfl)))
  match n, h1, hn with
  | 1, _, _ => exact ⟨_, go 1 (by decide) (by kernel_rfl) (by kernel_rfl), ⟨by decide, by decide⟩, by kernel_rfl, by decide⟩
  | 2, _, _ => exact ⟨_, go 3 (by decide) (by kernel_rfl) (by kernel_rfl), ⟨by decide, by decide⟩, by kernel_rfl, by decide⟩
  | 3, _, _ => exact ⟨_, go 7 (by decide) (by kernel_rfl) (by kernel_rfl), ⟨by decide, by decide⟩, by kernel_rfl, by decide⟩
  | 4, _, _ => exact ⟨_, go 15 (by decide) (by kernel_rfl) (by kernel_rfl), ⟨by decide, by decide⟩, by kernel_rfl, by decide⟩
  | 5, _, _ => exact ⟨_, go 31 (by decide) (by kernel_rfl) (by kernel_rfl), ⟨by decide, by decide⟩, by kernel_rfl, by decide⟩
theorem total_posC {l : List Row} (hw : ∀ r ∈ l, 1 ≤ r.f0 ∧ r.f0 ≤ 1099511627776) (h : 1 ≤ l.length) : 0 < total l := by
  match l, h, hw with
  | r :: t, _, hw =>
    have h1 := hw r (by simp)
    have h2 := (total_bd (l := t) (fun x hx => hw x (by simp [hx]))).1
    simp only [total]
    omega
theorem full_quorum {l : List Row} (T : tabOk l = true) {b : List Int} (ok : bitsOk b (l.length : Int) = true) (hb : ∀ j, j < l.length → bitAt b j = true) : isQuorum l b = true := by
  have hw : ∀ r ∈ l, 1 ≤ r.f0 ∧ r.f0 ≤ 1099511627776 := fun r hr => ((tabOk_iff.1 T).1 r hr).1
  have tp := total_posC hw (tabOk_iff.1 T).2.1
  have w : weightOf l b = total l := by
    unfold weightOf
    rw [if_pos ⟨T, ok⟩]
    exact wsum_full l 0 fun j hj => hb j (by omega)
  have tt : totalOf l = total l := by unfold totalOf; rw [if_pos T]
  unfold isQuorum
  rw [w, tt, T, decide_eq_true (by omega)]
  rfl
structure ChainEnv (n : Nat) (tx txs hd : Int) (rows : List Row) (full : List Int) : Prop where
  L : limitsOk (n : Int) tx txs 4000 hd = true
  T : tabOk rows = true
  R : Rows rows
  hn : rows.length = n
  n5 : 1 ≤ n ∧ n ≤ 5
  nb : niceB full
  ok : bitsOk full (n : Int) = true
  bits : ∀ j, j < n → bitAt full j = true
def nextH (n : Nat) (tx txs hd : Int) (rows : List Row) (full : List Int) (x : Head) (p : Int) (root : List Int) : Head := ⟨x.v + 1, x.h + 1, p, false, (hash (n : Int) tx txs 4000 hd x).2, false, root, qcDraft rows x.v x.h (hash (n : Int) tx txs 4000 hd x).2 full⟩
def Pc (n : Nat) (tx txs hd : Int) (x : Head) : Prop := headOk (n : Int) tx txs 4000 hd x = true ∧ x.nice
def Nc (n : Nat) (tx txs hd : Int) (rows : List Row) (x y : Head) : Prop := links (n : Int) tx txs 4000 hd x y = true ∧ y.par = (hash (n : Int) tx txs 4000 hd x).2 ∧ y.h = x.h + 1 ∧ y.v = x.v + 1 ∧ y.q.v = x.v ∧ qcCode (n : Int) tx txs 4000 hd rows y.q = 0
section
variable {n : Nat} {tx txs hd : Int} {rows : List Row} {full : List Int} (C : ChainEnv n tx txs hd rows full)
include C
theorem hash_get {x : Head} (h : headOk (n : Int) tx txs 4000 hd x = true) : (hash (n : Int) tx txs 4000 hd x).1 = false ∧ (hash (n : Int) tx txs 4000 hd x).2.length = 32 ∧ bytesOk (hash (n : Int) tx txs 4000 hd x).2 := by
  have _ := C.L
  unfold hash
  rw [if_pos h]
  exact ⟨rfl, (sha_spec _).1, (sha_spec _).2⟩
theorem next_good {x : Head} (hx : Pc n tx txs hd x) (hv : x.v ≤ 100) (hh : x.h ≤ 100) {p : Int} (p0 : 0 ≤ p) (p1 : p < n) {root : List Int} (r0 : root.length = 32) (r1 : bytesOk root) : Pc n tx txs hd (nextH n tx txs hd rows full x p root) ∧ Nc n tx txs hd rows x (nextH n tx txs hd rows full x p root) := by
  obtain ⟨g1, g2, g3⟩ := hash_get C hx.1
  have K := headK hx.1
  have hvn : isNum x.v = true := K.v
  have nv : 0 ≤ x.v := by
    have := hvn
    unfold isNum at this
    exact (of_decide_eq_true this).1
  have hxh : 1 ≤ x.h := by
    have := hx.1
    unfold headOk at this
    simp only [Bool.and_eq_true, decide_eq_true_eq] at this
    exact this.2.2.1.1
  have hhn : isNum x.h = true := by unfold isNum; exact decide_eq_true (by omega)
  have hl := C.hn
  have n5 := C.n5
  have okb : bitsOk full (rows.length : Int) = true := by rw [hl]; exact C.ok
  have q1 := draft_ok C.T C.L hvn hhn g2 (by rw [hl]) okb
  have q2 := code_qc C.T C.L hvn hhn g2 (by rw [hl]) okb
  rw [if_pos (full_quorum C.T okb (by rw [hl]; exact C.bits))] at q2
  have nh : niceB (hash (n : Int) tx txs 4000 hd x).2 := ⟨by show _ ≤ _; omega, g3⟩
  have nq := draft_nice rows x.v x.h nh C.nb (bitsOk_len C.ok)
  have wn : wrap64 ((n : Int) - 1) = (n : Int) - 1 := w64 (by omega) (by omega)
  have wh : wrap64 (x.h + 1 - 1) = x.h := by rw [w64 (by omega) (by omega)]; omega
  have ho : headOk (n : Int) tx txs 4000 hd (nextH n tx txs hd rows full x p root) = true := by
    unfold headOk
    show (qcOk (n : Int) tx txs 4000 hd (qcDraft rows x.v x.h (hash (n : Int) tx txs 4000 hd x).2 full) && (isNum (x.v + 1) && (decide (1 ≤ x.h + 1 ∧ x.h + 1 ≤ 1152921504606846975) && (decide (0 ≤ p ∧ p ≤ wrap64 ((n : Int) - 1)) && ((decide ((hash (n : Int) tx txs 4000 hd x).2.length = 32) && decide (root.length = 32)) && (decide (x.v < x.v + 1) && (decide (x.h = wrap64 (x.h + 1 - 1)) && sameB (hash (n : Int) tx txs 4000 hd x).2 (hash (n : Int) tx txs 4000 hd x).2))))))) = true
    rw [q1, wn, wh, sameB_refl, decide_eq_true g2, decide_eq_true r0, decide_eq_true (show x.v < x.v + 1 by omega), decide_eq_true (show 0 ≤ p ∧ p ≤ (n : Int) - 1 by omega), decide_eq_true (show 1 ≤ x.h + 1 ∧ x.h + 1 ≤ 1152921504606846975 by omega), show isNum (x.v + 1) = true from (by unfold isNum; exact decide_eq_true (by omega))]
    simp
  have hn : (nextH n tx txs hd rows full x p root).nice := ⟨⟨nh.1, by show _ ≤ _; simp only [nextH]; omega, nq.1⟩, g3, r1, nq.2⟩
  refine ⟨⟨ho, hn⟩, ?_, rfl, rfl, rfl, rfl, q2⟩
  unfold links
  rw [hx.1, ho]
  show (true && (true && (sameB (hash (n : Int) tx txs 4000 hd x).2 (hash (n : Int) tx txs 4000 hd x).2 && (decide (x.v = x.v) && decide (x.h = x.h))))) = true
  rw [sameB_refl]
  simp
theorem spec_NextHead.ev (z : Bool) {x : Head} (hx : Pc n tx txs hd x) (hv : x.v ≤ 100) (hh : x.h ≤ 100) {p : Int} (p0 : 0 ≤ p) (p1 : p < n) (rz : Bool) {root : List Int} (r0 : root.length = 32) (r1 : bytesOk root) : Ev (fun k => spec_NextHead.f k (n : Int) tx txs 4000 hd z (rows.map Row.t) x.v x.h x.p x.az x.par x.rz x.root x.q.v x.q.h x.q.bz x.q.blk x.q.mz x.q.bits x.q.tz (x.q.tags.map By.t) (x.v + 1) p rz root false full) (headTup (nextH n tx txs hd rows full x p root) true) := by
  obtain ⟨g1, g2, g3⟩ := hash_get C hx.1
  have G := next_good C hx hv hh p0 p1 r0 r1
  have K := headK hx.1
  have hvn : isNum x.v = true := K.v
  have hxh : 1 ≤ x.h := by
    have := hx.1
    unfold headOk at this
    simp only [Bool.and_eq_true, decide_eq_true_eq] at this
    exact this.2.2.1.1
  have hhn : isNum x.h = true := by unfold isNum; exact decide_eq_true (by omega)
  have hl := C.hn
  have n5 := C.n5
  have okb : bitsOk full (rows.length : Int) = true := by rw [hl]; exact C.ok
  have ia : i64r (n : Int) := by unfold i64r; omega
  have nh : niceB (hash (n : Int) tx txs 4000 hd x).2 := ⟨by show _ ≤ _; omega, g3⟩
  have H := spec_HeadHash.ev (n : Int) tx txs 4000 hd ia x hx.2
  have Q := spec_BuildQc.ev (n : Int) tx txs 4000 hd ia z rows C.R x.v x.h (hash (n : Int) tx txs 4000 hd x).1 (hash (n : Int) tx txs 4000 hd x).2 nh false full C.nb
  rw [built_qc C.T C.L hvn hhn g2 (by rw [hl]) okb] at Q
  have LK := spec_Links.ev (n : Int) tx txs 4000 hd ia x (nextH n tx txs hd rows full x p root) hx.2 G.1.2
  rw [G.2.1] at LK
  have wh : wrap64 (x.h + 1) = x.h + 1 := w64 (by omega) (by omega)
  refine ev_step ?_
  simp only [spec_NextHead.f, spec_NextHead.b, wh]
  have e1 : (hash (n : Int) tx txs 4000 hd x) = (false, (hash (n : Int) tx txs 4000 hd x).2) := by rw [← g1]
  rw [e1] at H
  rw [g1] at Q
  exact Ev.bind H (Ev.bind (spec_l01Copy.ev _ _ (by omega)) (Ev.bind Q (ev_neg (by simp) (Ev.bind LK (ev_neg (by simp) (ev_some rfl))))))
theorem stepC (z : Bool) (l : List Int) (hl : l.length ≤ 1048576) (y : Bool) (pre : List Head) (x : Head) (hx : Pc n tx txs hd x) (hv : x.v ≤ 100) (hh : x.h ≤ 100) (len : pre.length + 1 < 4) (eF : Ev (fun k => spec_l30Full.f k (n : Int)) (false, full)) (p s : Int) (hp : 0 ≤ p) : ∃ (w : Head) (p' s' : Int), 0 ≤ p' ∧ Pc n tx txs hd w ∧ Nc n tx txs hd rows x w ∧ ∀ R, Ev (fun k => spec_MakeChain.l0 k 4 ((pre ++ [x, w]).map Head.t) (n : Int) tx txs 4000 hd y (rows.map Row.t) z l p' s') R → Ev (fun k => spec_MakeChain.l0 k 4 ((pre ++ [x]).map Head.t) (n : Int) tx txs 4000 hd y (rows.map Row.t) z l p s) R := by
  have n5 := C.n5
  obtain ⟨q, p1, s1, e1, hp1, q0, _⟩ := spec_l01Below.ex z l hl p s (n : Int) hp
  have q0 := q0 (by omega)
  obtain ⟨root, p2, s2, e2, r0, r1, hp2⟩ := spec_l11Hash.ex z l hl p1 s1 hp1
  have G := next_good C hx hv hh q0.1 q0.2 r0 r1
  refine ⟨nextH n tx txs hd rows full x q root, p2, s2, hp2, G.1, G.2, fun R i2 => ?_⟩
  have N := spec_NextHead.ev C y hx hv hh q0.1 q0.2 false r0 r1
  have le : ((pre ++ [x]).map Head.t).length = pre.length + 1 := by simp
  have wl : wrap64 (((pre.length + 1 : Nat) : Int) - 1) = (pre.length : Int) := by rw [w64 (by omega) (by omega)]; omega
  have ga : ((pre ++ [x]).map Head.t).getD pre.length .bad = x.t := by
    rw [head_at (by simp)]
    simp
  have nv : 0 ≤ x.v := by
    have := (headK hx.1).v
    unfold isNum at this
    exact (of_decide_eq_true this).1
  have wv : wrap64 (x.v + 1) = x.v + 1 := w64 (by omega) (by omega)
  rw [show pre ++ [x, nextH n tx txs hd rows full x q root] = (pre ++ [x]) ++ [nextH n tx txs hd rows full x q root] by simp, List.map_append] at i2
  refine ev_step ?_
  simp only [spec_MakeChain.l0, spec_MakeChain.l0b, le, wl, Int.toNat_natCast, ga, Head.c0, Head.c1, Head.c2, Head.c3z, Head.c3, Head.c4z, Head.c4, Head.c5, Head.c6, Head.c7z, Head.c7, Head.c8z, Head.c8, Head.c9z, Head.c9, wv]
  exact ev_pos (by omega) (ev_pos (by omega) (ev_pos (by omega) (Ev.bind e1 (Ev.bind e2 (Ev.bind eF (Ev.bind N (ev_pos (by omega) i2)))))))
end
theorem spec_MakeChain.ex (z : Bool) (l : List Int) (h : l.length ≤ 1048576) : ∃ (n : Nat) (tx txs hd : Int) (y : Bool) (rows : List Row) (full : List Int) (s0 s1 s2 s3 : Head), Ev (fun k => spec_MakeChain.f k z l 4) ((n : Int), tx, txs, 4000, hd, y, rows.map Row.t, false, [s0, s1, s2, s3].map Head.t) ∧ ChainEnv n tx txs hd rows full ∧ (Pc n tx txs hd s0 ∧ Pc n tx txs hd s1 ∧ Pc n tx txs hd s2 ∧ Pc n tx txs hd s3) ∧ (Nc n tx txs hd rows s0 s1 ∧ Nc n tx txs hd rows s1 s2 ∧ Nc n tx txs hd rows s2 s3) ∧ s0.v ≤ 3 ∧ s0.h = 1 := by
  obtain ⟨s, e⟩ := spec_l01New.ex z l h
  obtain ⟨n, tx, txs, hd, y, rows, p1, t1, e1, h1, h2, h3, h4, h5, h6, hp1⟩ := spec_l23Pair.ex z l h 0 s (by omega)
  have TT := drawn_ok h6 (by omega) (by omega)
  have R := drawn_rows h6 (by omega)
  have L : limitsOk (n : Int) tx txs 4000 hd = true := by
    unfold limitsOk
    exact decide_eq_true ⟨by omega, h2, h3, by omega, h4⟩
  obtain ⟨full, eF, nb, ob, bb⟩ := spec_l30Full.ex n h1.1 h1.2
  have C : ChainEnv n tx txs hd rows full := ⟨L, TT, R, h5, h1, nb, ob, bb⟩
  obtain ⟨q, p2, t2, e2, hp2, q0, _⟩ := spec_l01Below.ex z l h p1 t1 3 hp1
  have q0 := q0 (by omega)
  obtain ⟨root, p3, t3, e3, r0, r1, hp3⟩ := spec_l11Hash.ex z l h p2 t2 hp2
  have ia : i64r (n : Int) := by unfold i64r; omega
  have nr : niceB root := ⟨by show _ ≤ _; omega, r1⟩
  have wq : wrap64 (1 + q) = 1 + q := w64 (by omega) (by omega)
  have B : belongs (n : Int) tx txs 4000 hd rows = true := by unfold belongs; rw [L, TT, decide_eq_true (by rw [h5])]; rfl
  have bn : bitsNew (n : Int) = (false, List.replicate (bitsSize (n : Int)).toNat 0) := by unfold bitsNew; rw [if_pos (by omega)]
  have bz : bitsOf n [] = List.replicate (bitsSize (n : Int)).toNat 0 := rfl
  have zs := bitsOf_spec (n := n) (own := []) (by omega) (by omega) (by simp)
  have zc : bitCount (bitsOf n []) = 0 := by
    unfold bitCount
    rw [bitsFrom_of (by omega) (by omega) (by simp) List.Pairwise.nil]
    rfl
  have wn : wrap64 ((n : Int) - 1) = (n : Int) - 1 := w64 (by omega) (by omega)
  have ho : headOk (n : Int) tx txs 4000 hd (draftHead (n : Int) (1 + q) root) = true := by
    unfold headOk draftHead
    rw [bn, ← bz]
    show (qcOk (n : Int) tx txs 4000 hd ⟨0, 0, false, List.replicate 32 0, false, bitsOf n [], true, []⟩ && (isNum (1 + q) && (decide ((1 : Int) ≤ 1 ∧ (1 : Int) ≤ 1152921504606846975) && (decide ((0 : Int) ≤ 0 ∧ 0 ≤ wrap64 ((n : Int) - 1)) && ((decide ((List.replicate 32 (0 : Int)).length = 32) && decide (root.length = 32)) && (decide (0 < 1 + q) && (decide ((0 : Int) = wrap64 (1 - 1)) && sameB (List.replicate 32 0) (List.replicate 32 0)))))))) = true
    have w0 : wrap64 ((1 : Int) - 1) = 0 := by rw [w64 (by omega) (by omega)]; rfl
    have qk : qcOk (n : Int) tx txs 4000 hd ⟨0, 0, false, List.replicate 32 0, false, bitsOf n [], true, []⟩ = true := by
      unfold qcOk
      show (limitsOk (n : Int) tx txs 4000 hd && (isNum 0 && (isNum 0 && (decide ((List.replicate 32 (0 : Int)).length = 32) && (bitsOk (bitsOf n []) (n : Int) && (decide (0 = bitCount (bitsOf n [])) && areH [])))))) = true
      rw [L, zs.2.2.1, zc]
      decide
    rw [qk, w0, wn, sameB_refl, decide_eq_true r0, decide_eq_true (show 0 < 1 + q by omega), decide_eq_true (show (0 : Int) ≤ 0 ∧ 0 ≤ (n : Int) - 1 by omega), show isNum (1 + q) = true from (by unfold isNum; exact decide_eq_true (by omega))]
    simp
  have F := spec_FirstHead.ev (n : Int) tx txs 4000 hd ia y rows R (1 + q) false root nr
  have eFH : firstHead (n : Int) tx txs 4000 hd rows (1 + q) root = (draftHead (n : Int) (1 + q) root, true) := by
    unfold firstHead
    rw [if_pos ⟨B, ho⟩]
  rw [eFH] at F
  have P0 : Pc n tx txs hd (draftHead (n : Int) (1 + q) root) := ⟨ho, draftHead_nice (n : Int) (1 + q) nr⟩
  have v0 : (draftHead (n : Int) (1 + q) root).v = 1 + q := rfl
  have k0 : (draftHead (n : Int) (1 + q) root).h = 1 := rfl
  obtain ⟨s1, p4, t4, hp4, P1, N1, S1⟩ := stepC C z l h y [] _ P0 (by omega) (by omega) (by simp) eF p3 t3 hp3
  have a1 := N1.2.2.1
  have b1 := N1.2.2.2.1
  obtain ⟨s2, p5, t5, hp5, P2, N2, S2⟩ := stepC C z l h y [draftHead (n : Int) (1 + q) root] s1 P1 (by omega) (by omega) (by simp) eF p4 t4 hp4
  have a2 := N2.2.2.1
  have b2 := N2.2.2.2.1
  obtain ⟨s3, p6, t6, hp6, P3, N3, S3⟩ := stepC C z l h y [draftHead (n : Int) (1 + q) root, s1] s2 P2 (by omega) (by omega) (by simp) eF p5 t5 hp5
  refine ⟨n, tx, txs, hd, y, rows, full, draftHead (n : Int) (1 + q) root, s1, s2, s3, ev_step ?_, C, ⟨P0, P1, P2, P3⟩, ⟨N1, N2, N3⟩, by omega, k0⟩
  simp only [spec_MakeChain.f, spec_MakeChain.b]
  have last : Ev (fun k => spec_MakeChain.l0 k 4 ([draftHead (n : Int) (1 + q) root, s1, s2, s3].map Head.t) (n : Int) tx txs 4000 hd y (rows.map Row.t) z l p6 t6) ((n : Int), tx, txs, 4000, hd, y, rows.map Row.t, false, [draftHead (n : Int) (1 + q) root, s1, s2, s3].map Head.t) := by
    refine ev_step ?_
    simp only [spec_MakeChain.l0, spec_MakeChain.l0b]
    exact ev_neg (by simp) (ev_some rfl)
  have all := S1 _ (S2 _ (S3 _ last))
  refine Ev.bind e (Ev.bind e1 (Ev.bind e2 (Ev.bind e3 ?_)))
  simp only [wq]
  exact Ev.bind F all
theorem laws_FnChain.top (x0 : By) (g0 : x0.good) : Ev (fun k => laws_FnChain.f k x0.z x0.l) true := by
  refine ev_step ?_
  simp only [laws_FnChain.f, laws_FnChain.b]
  refine ev_ite (fun _ => ev_some rfl) (fun c => ?_)
  obtain ⟨n, tx, txs, hd, y, rows, full, s0, s1, s2, s3, eC, C, ⟨P0, P1, P2, P3⟩, ⟨N1, N2, N3⟩, v0, k0⟩ := spec_MakeChain.ex x0.z x0.l (by omega)
  have n5 := C.n5
  have ia : i64r (n : Int) := by unfold i64r; omega
  have nl : NiceH [s0, s1, s2, s3] := ⟨by simp, fun x hx => by
    simp only [List.mem_cons, List.not_mem_nil, or_false] at hx
    rcases hx with rfl | rfl | rfl | rfl
    · exact P0.2
    · exact P1.2
    · exact P2.2
    · exact P3.2⟩
  have nl2 : NiceH [s0, s2] := ⟨by simp, fun x hx => by
    simp only [List.mem_cons, List.not_mem_nil, or_false] at hx
    rcases hx with rfl | rfl
    · exact P0.2
    · exact P2.2⟩
  have CC := impl_ChainCode.ev (n : Int) tx txs 4000 hd ia false [s0, s1, s2, s3] nl
  have c1 : chainCode (n : Int) tx txs 4000 hd [s0, s1, s2, s3] = 0 := by
    have h1 : areHeadsV (n : Int) tx txs 4000 hd [s0, s1, s2, s3] = true := by
      simp [areHeadsV, allFrom, P0.1, P1.1, P2.1, P3.1]
    have h2 : allFrom (linksAt (n : Int) tx txs 4000 hd [s0, s1, s2, s3]) 1 ([s0, s1, s2, s3].length - 1) = true := by
      simp [allFrom, linksAt, N1.1, N2.1, N3.1]
    unfold chainCode
    rw [if_neg (by simp), if_pos h1, if_pos h2]
  rw [c1] at CC
  have CB := impl_ChainCode.ev (n : Int) tx txs 4000 hd ia false [s0, s2] nl2
  have c2 : chainCode (n : Int) tx txs 4000 hd [s0, s2] = 4 := by
    have h1 : areHeadsV (n : Int) tx txs 4000 hd [s0, s2] = true := by
      simp [areHeadsV, allFrom, P0.1, P2.1]
    have hno : links (n : Int) tx txs 4000 hd s0 s2 = false := by
      unfold links
      have e1 := N2.2.2.2.2.1
      have e2 := N1.2.2.2.1
      rw [decide_eq_false (show ¬ s2.q.v = s0.v by omega)]
      simp
    have h2 : ¬ allFrom (linksAt (n : Int) tx txs 4000 hd [s0, s2]) 1 ([s0, s2].length - 1) = true := by
      simp [allFrom, linksAt, hno]
    unfold chainCode
    rw [if_neg (by simp), if_pos h1, if_neg h2]
  rw [c2] at CB
  have CN := impl_ChainCode.ev (n : Int) tx txs 4000 hd ia true [] ⟨by simp, by simp⟩
  have c3 : chainCode (n : Int) tx txs 4000 hd [] = 1 := by
    unfold chainCode
    simp
  rw [c3] at CN
  have step : ∀ (i : Nat) (u w : Head), 1 ≤ i → i < 4 → ([s0, s1, s2, s3].map Head.t).getD (i - 1) .bad = u.t → ([s0, s1, s2, s3].map Head.t).getD i .bad = w.t → Pc n tx txs hd u → Pc n tx txs hd w → Nc n tx txs hd rows u w → u.h ≤ 100 → Ev (fun k => laws_FnChain.l0 k false ([s0, s1, s2, s3].map Head.t) ((i + 1 : Nat) : Int) (n : Int) tx txs 4000 hd y (rows.map Row.t)) true → Ev (fun k => laws_FnChain.l0 k false ([s0, s1, s2, s3].map Head.t) (i : Int) (n : Int) tx txs 4000 hd y (rows.map Row.t)) true := fun i u w h1 h4 gu gw Pu Pw Nw hh nx => by
    have LK := impl_Links.ev (n : Int) tx txs 4000 hd ia u w Pu.2 Pw.2
    rw [Nw.1] at LK
    have HH := impl_HeadHash.ev (n : Int) tx txs 4000 hd ia u Pu.2
    have SB := impl_SameBytes.ev w.az (hash (n : Int) tx txs 4000 hd u).1 w.par (hash (n : Int) tx txs 4000 hd u).2
    have es : sameB w.par (hash (n : Int) tx txs 4000 hd u).2 = true := by rw [Nw.2.1, sameB_refl]
    rw [es] at SB
    have QC := impl_QcCode.ev (n : Int) tx txs 4000 hd y rows C.R w.q ⟨Pw.2.1.2.2, Pw.2.2.2.2⟩ ia
    rw [Nw.2.2.2.2.2] at QC
    have len : ([s0, s1, s2, s3].map Head.t).length = 4 := rfl
    have wi : wrap64 ((i : Int) - 1) = ((i - 1 : Nat) : Int) := by rw [w64 (by omega) (by omega)]; omega
    have eh := Nw.2.2.1
    have hu1 : 1 ≤ u.h := by
      have := Pu.1
      unfold headOk at this
      simp only [Bool.and_eq_true, decide_eq_true_eq] at this
      exact this.2.2.1.1
    have wu : wrap64 (u.h + 1) = u.h + 1 := w64 (by omega) (by omega)
    refine ev_step ?_
    simp only [laws_FnChain.l0, laws_FnChain.l0b, len, wi, Int.toNat_natCast, gu, gw, Head.c0, Head.c1, Head.c2, Head.c3z, Head.c3, Head.c4z, Head.c4, Head.c5, Head.c6, Head.c7z, Head.c7, Head.c8z, Head.c8, Head.c9z, Head.c9, wu, succ_nat i (by omega)]
    refine ev_pos (by omega) (ev_pos (by omega) (ev_pos (by omega) (ev_pos (by omega) (ev_pos (by omega) (Ev.bind LK (ev_neg (by simp) (ev_pos (by omega) (ev_pos (by omega) (ev_pos (by omega) (ev_pos (by omega) (Ev.bind HH (Ev.bind SB (ev_neg (by simp) (ev_pos (by omega) (ev_pos (by omega) (ev_pos (by omega) (ev_pos (by omega) (ev_neg ?_ (ev_pos (by omega) (ev_pos (by omega) (Ev.bind QC (ev_neg (by simp) nx))))))))))))))))))))))
    simp [eh]
  have fin : Ev (fun k => laws_FnChain.l0 k false ([s0, s1, s2, s3].map Head.t) ((4 : Nat) : Int) (n : Int) tx txs 4000 hd y (rows.map Row.t)) true := by
    have len : ([s0, s1, s2, s3].map Head.t).length = 4 := rfl
    have g0 : ([s0, s1, s2, s3].map Head.t).getD 0 .bad = s0.t := rfl
    have g2 : ([s0, s1, s2, s3].map Head.t).getD 2 .bad = s2.t := rfl
    refine ev_step ?_
    simp only [laws_FnChain.l0, laws_FnChain.l0b, len, g0, g2, Head.c0, Head.c1, Head.c2, Head.c3z, Head.c3, Head.c4z, Head.c4, Head.c5, Head.c6, Head.c7z, Head.c7, Head.c8z, Head.c8, Head.c9z, Head.c9]
    exact ev_neg (by omega) (ev_pos (by omega) (ev_pos (by omega) (Ev.bind CB (ev_pos (by simp) (Ev.bind CN (ev_some (by simp)))))))
  have a1 := N1.2.2.1
  have a2 := N2.2.2.1
  exact Ev.bind eC (Ev.bind CC (ev_neg (by simp) (step 1 s0 s1 (by omega) (by omega) rfl rfl P0 P1 N1 (by omega) (step 2 s1 s2 (by omega) (by omega) rfl rfl P1 P2 N2 (by omega) (step 3 s2 s3 (by omega) (by omega) rfl rfl P2 P3 N3 (by omega) fin)))))
end Go.Proofs.YtbpcnodmgphinaaG
