/- What the printed forms answer, over numbers and lists alone. Each lemma names its conditions. -/
import Derived.Test.YtbpcnodmgphinaaGFnSignb
namespace Go.Proofs.YtbpcnodmgphinaaG
open Go Go.Proofs.YtbpcnodmgphinaaRv Go.RowKit
set_option linter.unusedVariables false
set_option linter.unusedSimpArgs false


theorem impl_within.ev (a b c : Int) : Ev (fun k => impl_within.f k a b c) (decide (b ≤ a ∧ a ≤ c)) := by
  refine ev_step ?_
  simp only [impl_within.f, impl_within.b]
  exact ev_ite (fun h => ev_some (by simp [h])) (fun h => ev_some (by simp [h]))
theorem impl_isNum.ev (a : Int) : Ev (fun k => impl_isNum.f k a) (isNum a) := by
  refine ev_step ?_
  simp only [impl_isNum.f, impl_isNum.b]
  exact Ev.bind (impl_within.ev _ _ _) (ev_some rfl)
theorem impl_copyBytes.ev (z : Bool) (l : List Int) (h : l.length ≤ 1073741824) : Ev (fun k => impl_copyBytes.f k z l) (false, l) := by
  refine ev_step ?_
  simp only [impl_copyBytes.f, impl_copyBytes.b]
  exact ev_pos (by omega) (ev_some (by simp))


def putV (b : List Int) (n : Int) : Bool × List Int × Bool := if isNum n = true then (false, b ++ vint 8 n, true) else (true, [], false)
theorem impl_PutVar.ev0 : ∀ (m : Nat) (n : Int) (z : Bool) (acc : List Int), 0 ≤ n → n < 128 ^ (m + 1) → n ≤ 1152921504606846975 → acc.length + m ≤ 1073741840 → Ev (fun k => impl_PutVar.l0 k n z acc) (false, acc ++ vint m n, true)
  | 0, n, z, acc, h0, h1, h2, hl => by
    simp at h1
    refine ev_step ?_
    simp only [impl_PutVar.l0, impl_PutVar.l0b]
    refine ev_neg (by omega) (ev_pos (by omega) (ev_some ?_))
    rw [Int.emod_eq_of_lt h0 (by omega)]
    rfl
  | m + 1, n, z, acc, h0, h1, h2, hl => by
    refine ev_step ?_
    simp only [impl_PutVar.l0, impl_PutVar.l0b]
    unfold vint
    by_cases c : n < 128
    · rw [if_pos c]
      refine ev_neg (by omega) (ev_pos (by omega) (ev_some ?_))
      rw [Int.emod_eq_of_lt h0 (by omega)]
    · rw [if_neg c, Int.tdiv_eq_ediv_of_nonneg h0, Int.tmod_eq_emod_of_nonneg h0, w64 (n := n / 128) (by omega) (by omega), w64 (by omega) (by omega)]
      refine ev_pos (by omega) (ev_pos (by omega) (ev_to (impl_PutVar.ev0 m (n / 128) _ _ (by omega) ?_ (by omega) (by simp; omega)) ?_))
      · have e : (128 : Int) ^ (m + 1 + 1) = 128 ^ (m + 1) * 128 := Int.pow_succ 128 (m + 1)
        rw [e] at h1
        generalize (128 : Int) ^ (m + 1) = q at *
        omega
      · rw [List.append_assoc, List.singleton_append]
        congr 4
        omega
theorem impl_PutVar.ev (z : Bool) (b : List Int) (n : Int) (hb : b.length ≤ 1073741824) : Ev (fun k => impl_PutVar.f k z b n) (putV b n) := by
  refine ev_step ?_
  simp only [impl_PutVar.f, impl_PutVar.b]
  unfold putV
  refine Ev.bind (impl_isNum.ev n) (ev_ite (fun c => ev_some (by rw [if_neg c])) (fun c => ?_))
  have c : isNum n = true := by simpa using c
  obtain ⟨h0, h1⟩ := num_pow c
  rw [if_pos c]
  exact Ev.bind (impl_copyBytes.ev z b hb) (impl_PutVar.ev0 8 n _ b h0 h1 (isNum_iff.1 c).2 (by omega))

def numsV (acc : List Int) (ns : List Int) : Bool × List Int := if ∀ n ∈ ns, isNum n = true then (false, acc ++ ns.flatMap (vint 8)) else (true, [])
theorem impl_numbers.ev0 (zn : Bool) (ns : List Int) (hn : ns.length ≤ 4) : ∀ (d i : Nat) (acc : List Int), i + d = ns.length → acc.length ≤ 100 + 10 * i → Ev (fun k => impl_numbers.l0 k false acc zn ns (ns.length : Int) (i : Int)) (numsV acc (ns.drop i))
  | 0, i, acc, hi, ha => by
    refine ev_step ?_
    simp only [impl_numbers.l0, impl_numbers.l0b]
    refine ev_neg (by omega) (ev_some ?_)
    rw [List.drop_of_length_le (by omega)]
    simp [numsV]
  | d + 1, i, acc, hi, ha => by
    have hlt : i < ns.length := by omega
    refine ev_step ?_
    simp only [impl_numbers.l0, impl_numbers.l0b]
    refine ev_pos (by omega) (ev_pos (by omega) (ev_pos (by omega) ?_))
    have e0 : rdI ns (i : Int) = ns[i] := by simp [rdI, hlt]
    rw [e0, List.drop_eq_getElem_cons hlt]
    refine Ev.bind (impl_PutVar.ev false acc _ (by omega)) ?_
    rw [w64s (by omega)]
    have := vint_length 8 (ns[i])
    unfold putV
    by_cases c : isNum (ns[i]) = true
    · rw [if_pos c]
      have ih := impl_numbers.ev0 zn ns hn d (i + 1) (acc ++ vint 8 ns[i]) (by omega) (by simp; omega)
      refine ev_neg (by simp) (ev_to ih ?_)
      generalize ns.drop (i + 1) = t
      generalize ns[i] = x at *
      simp [numsV, c]
    · rw [if_neg c]
      refine ev_pos (by simp) (ev_some ?_)
      generalize ns.drop (i + 1) = t
      generalize ns[i] = x at *
      simp [numsV, c]
theorem impl_numbers.ev (c : Int) (zn : Bool) (ns : List Int) (hn : ns.length ≤ 4) : Ev (fun k => impl_numbers.f k c zn ns) (numsV [c] ns) := by
  refine ev_step ?_
  simp only [impl_numbers.f, impl_numbers.b]
  exact impl_numbers.ev0 zn ns hn ns.length 0 [c] (by omega) (by simp)
def leaveV (a b : Int) : Bool × List Int := if isNum a = true ∧ isNum b = true then (false, 76 :: (vint 8 a ++ vint 8 b)) else (true, [])
theorem impl_LeaveBytes.ev (a b : Int) : Ev (fun k => impl_LeaveBytes.f k a b) (leaveV a b) := by
  refine ev_step ?_
  simp only [impl_LeaveBytes.f, impl_LeaveBytes.b]
  refine Ev.bind (impl_numbers.ev 76 false [a, b] (by simp)) (ev_some ?_)
  by_cases c : isNum a = true <;> by_cases d : isNum b = true <;> simp [numsV, leaveV, c, d]
theorem leaveV_len (a b : Int) : (leaveV a b).2.length ≤ 19 ∧ ((leaveV a b).1 = decide ((leaveV a b).2 = [])) := by
  have h1 := vint_length 8 a
  have h2 := vint_length 8 b
  unfold leaveV
  split
  · simp; omega
  · simp
theorem leaveV_nice (a b : Int) : ∀ x ∈ (leaveV a b).2, 0 ≤ x ∧ x < 256 := by
  unfold leaveV
  split
  · rename_i h
    intro x hx
    simp only [List.mem_cons, List.mem_append] at hx
    rcases hx with rfl | hx | hx
    · omega
    · exact vint_nice h.1 x hx
    · exact vint_nice h.2 x hx
  · simp


structure Row where
  f0 : Int
  z : Bool
  f1 : List Int
instance : Inhabited Row := ⟨⟨0, false, []⟩⟩
def Row.t (r : Row) : T := .agg [.int .i64 r.f0, .nums 5 .u8 r.z r.f1]
theorem row_at {l : List Row} {i : Nat} (h : i < l.length) : (l.map Row.t).getD i .bad = (l[i]).t := by simp [List.getD_eq_getElem?_getD, h]
theorem Row.c0 (r : Row) : (r.t.cells.getD 0 .bad).toInt = r.f0 := rfl
theorem Row.c1z (r : Row) : (r.t.cells.getD 1 .bad).isNil = r.z := rfl
theorem Row.c1 (r : Row) : (r.t.cells.getD 1 .bad).toNums = r.f1 := rfl

def rowOk (r : Row) : Bool := decide (1 ≤ r.f0 ∧ r.f0 ≤ 1099511627776) && decide (1 ≤ r.f1.length ∧ r.f1.length ≤ 64)
def tabOk (l : List Row) : Bool := l.all rowOk && decide (1 ≤ l.length ∧ l.length ≤ 10)
theorem tabOk_iff {l : List Row} : tabOk l = true ↔ (∀ r ∈ l, (1 ≤ r.f0 ∧ r.f0 ≤ 1099511627776) ∧ 1 ≤ r.f1.length ∧ r.f1.length ≤ 64) ∧ 1 ≤ l.length ∧ l.length ≤ 10 := by
  simp [tabOk, rowOk]
theorem impl_TableOk.ev0 (z : Bool) (l : List Row) (h : l.length ≤ 1048576) : ∀ (d n : Nat), n + d = l.length → Ev (fun k => impl_TableOk.l0 k z (l.map Row.t) (l.length : Int) (n : Int) z (l.map Row.t)) ((l.drop n).all rowOk && decide (1 ≤ l.length ∧ l.length ≤ 10))
  | 0, n, hn => by
    refine ev_step ?_
    simp only [impl_TableOk.l0, impl_TableOk.l0b]
    refine ev_neg (by omega) (Ev.bind (impl_within.ev _ _ _) (ev_some ?_))
    rw [List.drop_of_length_le (by omega), List.length_map]
    have e : (1 ≤ (l.length : Int) ∧ (l.length : Int) ≤ 10) ↔ (1 ≤ l.length ∧ l.length ≤ 10) := by omega
    simp [e]
  | d + 1, n, hn => by
    have hlt : n < l.length := by omega
    refine ev_step ?_
    simp only [impl_TableOk.l0, impl_TableOk.l0b, Int.toNat_natCast, row_at hlt, Row.c0, Row.c1, List.length_map]
    refine ev_pos (by omega) (ev_pos (by omega) (ev_pos (by omega) (Ev.bind (impl_within.ev _ _ _) ?_)))
    rw [List.drop_eq_getElem_cons hlt, List.all_cons]
    refine ev_ite (fun c1 => ev_some ?_) (fun c1 => Ev.bind (impl_within.ev _ _ _) (ev_ite (fun c2 => ev_some ?_) (fun c2 => ?_)))
    · simp at c1
      have : ¬ (1 ≤ (l[n]).f0 ∧ (l[n]).f0 ≤ 1099511627776) := by omega
      simp [rowOk, this]
    · simp at c2
      have : ¬ (1 ≤ (l[n]).f1.length ∧ (l[n]).f1.length ≤ 64) := by omega
      simp [rowOk, this]
    · rw [w64s (by omega)]
      have ih := impl_TableOk.ev0 z l h d (n + 1) (by omega)
      refine ev_to ih ?_
      simp at c1 c2
      have c3 : 1 ≤ (l[n]).f1.length ∧ (l[n]).f1.length ≤ 64 := by omega
      simp [rowOk, c1, c3]
theorem impl_TableOk.ev (z : Bool) (l : List Row) (h : l.length ≤ 1048576) : Ev (fun k => impl_TableOk.f k z (l.map Row.t)) (tabOk l) := by
  refine ev_step ?_
  simp only [impl_TableOk.f, impl_TableOk.b, List.length_map]
  exact ev_to (impl_TableOk.ev0 z l h l.length 0 (by omega)) (by simp [tabOk])
theorem impl_SameBytes.ev (y z : Bool) (a b : List Int) : Ev (fun k => impl_SameBytes.f k y a z b) (sameB a b) := by
  refine ev_step ?_
  simp only [impl_SameBytes.f, impl_SameBytes.b]
  exact ev_some rfl
end Go.Proofs.YtbpcnodmgphinaaG
namespace Go.Proofs.YtbpcnodmgphinaaG
open Go Go.Proofs.YtbpcnodmgphinaaRv Go.RowKit
set_option linter.unusedVariables false
set_option linter.unusedSimpArgs false


def isW (x : Int) : Prop := 0 ≤ x ∧ x ≤ 4294967295
def turn (x n : Int) : Int := Go.bits .and .i64 (Go.bits .or .i64 (shrI .i64 x n) (shlI .i64 x (wrap64 ((32 : Int) - n)))) 4294967295
theorem wraps_i64 (n : Int) (h₀ : 0 ≤ n) (h₁ : n < 2 ^ 63) : IntKind.i64.wrap n = n := by rw [IntKind.wrap_i64]; omega
theorem and_mask (y : Int) : isW (Go.bits .and .i64 y 4294967295) := by
  have h : ∀ n : Nat, n ≤ 4294967295 → isW (IntKind.i64.wrap (n : Int)) := fun n hn => by
    rw [wraps_i64 _ (by omega) (by omega)]
    unfold isW
    omega
  simp only [Go.bits]
  refine h _ ?_
  rw [BitVec.toNat_and]
  refine Nat.le_trans Nat.and_le_right ?_
  decide
theorem bits_w {a b : Nat} (ha : a < 2 ^ 32) (hb : b < 2 ^ 32) : Go.bits .and .i64 (a : Int) b = ((a &&& b : Nat) : Int) ∧ Go.bits .or .i64 (a : Int) b = ((a ||| b : Nat) : Int) ∧ Go.bits .xor .i64 (a : Int) b = ((a ^^^ b : Nat) : Int) := by
  obtain ⟨h1, h2⟩ := bits_nat .i64 63 (by decide) wraps_i64 a b (by omega) (by omega)
  refine ⟨h1, h2, ?_⟩
  have ha' : a % 2 ^ 64 = a := Nat.mod_eq_of_lt (by omega)
  have hb' : b % 2 ^ 64 = b := Nat.mod_eq_of_lt (by omega)
  have hx : a ^^^ b < 2 ^ 32 := Nat.xor_lt_two_pow ha hb
  simp only [Go.bits, BitVec.ofInt_natCast, BitVec.toNat_xor, BitVec.toNat_ofNat]
  show IntKind.i64.wrap (((a % 2 ^ 64) ^^^ (b % 2 ^ 64) : Nat) : Int) = _
  rw [ha', hb']
  exact wraps_i64 _ (by omega) (by omega)
theorem W_nat {x : Int} (h : isW x) : ∃ n : Nat, x = (n : Int) ∧ n < 2 ^ 32 := by
  obtain ⟨n, rfl⟩ := Int.eq_ofNat_of_zero_le h.1
  refine ⟨n, rfl, ?_⟩
  have := h.2
  omega
theorem nat_W {n : Nat} (h : n < 2 ^ 32) : isW (n : Int) := by unfold isW; omega
theorem ch_eq {e f g : Int} (he : isW e) (hf : isW f) (hg : isW g) : Go.bits .or .i64 (Go.bits .and .i64 e f) (Go.bits .and .i64 (Go.bits .xor .i64 e 4294967295) g) = Go.bits .xor .i64 (Go.bits .and .i64 e f) (Go.bits .and .i64 (Go.bits .xor .i64 4294967295 e) g) := by
  obtain ⟨a, rfl, ha⟩ := W_nat he
  obtain ⟨b, rfl, hb⟩ := W_nat hf
  obtain ⟨c, rfl, hc⟩ := W_nat hg
  have hm : (4294967295 : Nat) < 2 ^ 32 := by decide
  have e1 : (4294967295 : Int) = ((4294967295 : Nat) : Int) := rfl
  have h1 : a &&& b < 2 ^ 32 := Nat.and_lt_two_pow _ hb
  have h2 : a ^^^ 4294967295 < 2 ^ 32 := Nat.xor_lt_two_pow ha hm
  have h3 : 4294967295 ^^^ a < 2 ^ 32 := Nat.xor_lt_two_pow hm ha
  rw [e1, (bits_w ha hb).1, (bits_w ha hm).2.2, (bits_w hm ha).2.2, (bits_w h2 hc).1, (bits_w h3 hc).1, (bits_w h1 (Nat.and_lt_two_pow _ hc)).2.1, (bits_w h1 (Nat.and_lt_two_pow _ hc)).2.2]
  congr 1
  apply Nat.eq_of_testBit_eq
  intro i
  simp only [Nat.testBit_or, Nat.testBit_and, Nat.testBit_xor]
  by_cases hi : i < 32
  · have : Nat.testBit 4294967295 i = true := by
      have := Nat.testBit_two_pow_sub_one 32 i
      simpa [hi] using this
    rw [this]
    cases a.testBit i <;> cases b.testBit i <;> cases c.testBit i <;> rfl
  · have z : a.testBit i = false := Nat.testBit_lt_two_pow (Nat.lt_of_lt_of_le ha (Nat.pow_le_pow_right (by decide) (by omega)))
    have y : c.testBit i = false := Nat.testBit_lt_two_pow (Nat.lt_of_lt_of_le hc (Nat.pow_le_pow_right (by decide) (by omega)))
    rw [z, y]
    simp
theorem maj_eq {e f g : Int} (he : isW e) (hf : isW f) (hg : isW g) : Go.bits .or .i64 (Go.bits .or .i64 (Go.bits .and .i64 e f) (Go.bits .and .i64 e g)) (Go.bits .and .i64 f g) = Go.bits .xor .i64 (Go.bits .xor .i64 (Go.bits .and .i64 e f) (Go.bits .and .i64 e g)) (Go.bits .and .i64 f g) := by
  obtain ⟨a, rfl, ha⟩ := W_nat he
  obtain ⟨b, rfl, hb⟩ := W_nat hf
  obtain ⟨c, rfl, hc⟩ := W_nat hg
  have h1 : a &&& b < 2 ^ 32 := Nat.and_lt_two_pow _ hb
  have h2 : a &&& c < 2 ^ 32 := Nat.and_lt_two_pow _ hc
  have h3 : b &&& c < 2 ^ 32 := Nat.and_lt_two_pow _ hc
  rw [(bits_w ha hb).1, (bits_w ha hc).1, (bits_w hb hc).1, (bits_w h1 h2).2.1, (bits_w h1 h2).2.2, (bits_w (Nat.or_lt_two_pow h1 h2) h3).2.1, (bits_w (Nat.xor_lt_two_pow h1 h2) h3).2.2]
  congr 1
  apply Nat.eq_of_testBit_eq
  intro i
  simp only [Nat.testBit_or, Nat.testBit_and, Nat.testBit_xor]
  cases a.testBit i <;> cases b.testBit i <;> cases c.testBit i <;> rfl

theorem impl_isWord.ev (x : Int) : Ev (fun k => impl_isWord.f k x) (decide (0 ≤ x ∧ x ≤ 4294967295)) := by
  refine ev_step ?_
  simp only [impl_isWord.f, impl_isWord.b]
  exact Ev.bind (impl_within.ev _ _ _) (ev_some rfl)
theorem impl_TurnRight.ev (x n : Int) (hx : isW x) (h0 : 0 ≤ n) (h1 : n ≤ 31) : Ev (fun k => impl_TurnRight.f k x n) (turn x n) := by
  have := hx.1
  have := hx.2
  refine ev_step ?_
  simp only [impl_TurnRight.f, impl_TurnRight.b]
  refine Ev.bind (impl_isWord.ev x) (ev_neg (by simp; omega) (Ev.bind (impl_within.ev _ _ _) (ev_neg (by simp; omega) (ev_pos h0 (ev_pos (by unfold wrap64; omega) (ev_some rfl))))))

theorem rdI_nat {l : List Int} {n : Nat} (h : n < l.length) : rdI l (n : Int) = l[n] := by simp [rdI, h]
def Ws (l : List Int) : Prop := ∀ x ∈ l, isW x
theorem Ws_rd {l : List Int} (h : Ws l) (i : Int) : isW (rdI l i) := by
  unfold rdI
  by_cases hi : i.toNat < l.length
  · rw [List.getD_eq_getElem?_getD, List.getElem?_eq_getElem hi]
    exact h _ (List.getElem_mem hi)
  · rw [List.getD_eq_getElem?_getD, List.getElem?_eq_none (by omega)]
    show isW 0
    unfold isW
    omega

def wb (b : List Int) (i : Nat) : Int := Go.bits .or .i64 (Go.bits .or .i64 (Go.bits .or .i64 (shlI .i64 (wrap64 (rdI b ((4 * i : Nat) : Int))) 24) (shlI .i64 (wrap64 (rdI b ((4 * i + 1 : Nat) : Int))) 16)) (shlI .i64 (wrap64 (rdI b ((4 * i + 2 : Nat) : Int))) 8)) (wrap64 (rdI b ((4 * i + 3 : Nat) : Int)))

def sc (w : List Int) : Int :=
  let x := rdI w ((w.length - 15 : Nat) : Int)
  let y := rdI w ((w.length - 2 : Nat) : Int)
  Go.bits .and .i64 (wrap64 (wrap64 (wrap64 (rdI w ((w.length - 16 : Nat) : Int) + Go.bits .xor .i64 (Go.bits .xor .i64 (turn x 7) (turn x 18)) (shrI .i64 x 3)) + rdI w ((w.length - 7 : Nat) : Int)) + Go.bits .xor .i64 (Go.bits .xor .i64 (turn y 17) (turn y 19)) (shrI .i64 y 10))) 4294967295
def grow (w : List Int) : Nat → List Int
  | 0 => w
  | d + 1 => grow (w ++ [sc w]) d
def rnd (K W : List Int) (i : Nat) (v : List Int) : List Int :=
  let t := wrap64 (wrap64 (wrap64 (wrap64 (rdI v 7 + Go.bits .xor .i64 (Go.bits .xor .i64 (turn (rdI v 4) 6) (turn (rdI v 4) 11)) (turn (rdI v 4) 25)) + Go.bits .xor .i64 (Go.bits .and .i64 (rdI v 4) (rdI v 5)) (Go.bits .and .i64 (Go.bits .xor .i64 4294967295 (rdI v 4)) (rdI v 6))) + rdI K (i : Int)) + rdI W (i : Int))
  let u := wrap64 (Go.bits .xor .i64 (Go.bits .xor .i64 (turn (rdI v 0) 2) (turn (rdI v 0) 13)) (turn (rdI v 0) 22) + Go.bits .xor .i64 (Go.bits .xor .i64 (Go.bits .and .i64 (rdI v 0) (rdI v 1)) (Go.bits .and .i64 (rdI v 0) (rdI v 2))) (Go.bits .and .i64 (rdI v 1) (rdI v 2)))
  [Go.bits .and .i64 (wrap64 (t + u)) 4294967295, rdI v 0, rdI v 1, rdI v 2, Go.bits .and .i64 (wrap64 (rdI v 3 + t)) 4294967295, rdI v 4, rdI v 5, rdI v 6]
def rnds (K W : List Int) : Nat → Nat → List Int → List Int
  | 0, _, v => v
  | d + 1, i, v => rnds K W d (i + 1) (rnd K W i v)
def outs (h v : List Int) (n : Nat) : List Int := (List.range n).map fun (i : Nat) => Go.bits .and .i64 (wrap64 (rdI h (i : Int) + rdI v (i : Int))) 4294967295
def shaK : List Int := [1116352408, 1899447441, 3049323471, 3921009573, 961987163, 1508970993, 2453635748, 2870763221, 3624381080, 310598401, 607225278, 1426881987, 1925078388, 2162078206, 2614888103, 3248222580, 3835390401, 4022224774, 264347078, 604807628, 770255983, 1249150122, 1555081692, 1996064986, 2554220882, 2821834349, 2952996808, 3210313671, 3336571891, 3584528711, 113926993, 338241895, 666307205, 773529912, 1294757372, 1396182291, 1695183700, 1986661051, 2177026350, 2456956037, 2730485921, 2820302411, 3259730800, 3345764771, 3516065817, 3600352804, 4094571909, 275423344, 430227734, 506948616, 659060556, 883997877, 958139571, 1322822218, 1537002063, 1747873779, 1955562222, 2024104815, 2227730452, 2361852424, 2428436474, 2756734187, 3204031479, 3329325298]
def shaW (b : List Int) : List Int := grow ((List.range 16).map (wb b)) 48
def shaBlk (h b : List Int) : List Int := outs h (rnds shaK (shaW b) 64 0 h) 8
def bytesOk (b : List Int) : Prop := ∀ x ∈ b, 0 ≤ x ∧ x < 256

theorem grow_W : ∀ (d : Nat) (w : List Int), Ws w → Ws (grow w d)
  | 0, w, h => h
  | d + 1, w, h => grow_W d _ fun x hx => by
    rcases List.mem_append.1 hx with hx | hx
    · exact h x hx
    · rw [List.mem_singleton.1 hx]; exact and_mask _
theorem rnd_W (K W : List Int) (i : Nat) {v : List Int} (h : Ws v) : Ws (rnd K W i v) ∧ (rnd K W i v).length = 8 := by
  refine ⟨fun x hx => ?_, rfl⟩
  simp only [rnd, List.mem_cons, List.not_mem_nil, or_false] at hx
  rcases hx with rfl | rfl | rfl | rfl | rfl | rfl | rfl | rfl <;> first | exact and_mask _ | exact Ws_rd h _
theorem outs_W (h v : List Int) (n : Nat) : Ws (outs h v n) ∧ (outs h v n).length = n := by
  refine ⟨fun x hx => ?_, by simp [outs]⟩
  obtain ⟨i, _, rfl⟩ := List.mem_map.1 hx
  exact and_mask _
theorem byte_shl {x : Int} (h0 : 0 ≤ x) (h1 : x < 256) (s : Nat) (hs : s ≤ 24) : ∃ n : Nat, shlI .i64 (wrap64 x) (s : Int) = (n : Int) ∧ n < 2 ^ 32 := by
  obtain ⟨n, rfl⟩ := Int.eq_ofNat_of_zero_le h0
  rw [w64 (by omega) (by omega)]
  have hp : (2 : Nat) ^ s ≤ 2 ^ 24 := Nat.pow_le_pow_right (by decide) hs
  have hlt : n * 2 ^ s < 2 ^ 32 := by
    have : n * 2 ^ s ≤ 255 * 2 ^ 24 := Nat.mul_le_mul (by omega) hp
    omega
  refine ⟨n * 2 ^ s, ?_, hlt⟩
  unfold shlI
  have e : min ((s : Int)).toNat (IntKind.bits .i64) = s := by
    have : IntKind.bits .i64 = 64 := rfl
    rw [this, Int.toNat_natCast]
    omega
  have e2 : ((n : Int) * 2 ^ s) = ((n * 2 ^ s : Nat) : Int) := by push_cast; rfl
  rw [e, e2]
  exact wraps_i64 _ (by omega) (by omega)
theorem rd_byte {b : List Int} (h : bytesOk b) (i : Int) : 0 ≤ rdI b i ∧ rdI b i < 256 := by
  unfold rdI
  by_cases hi : i.toNat < b.length
  · rw [List.getD_eq_getElem?_getD, List.getElem?_eq_getElem hi]
    exact h _ (List.getElem_mem hi)
  · rw [List.getD_eq_getElem?_getD, List.getElem?_eq_none (by omega)]
    exact ⟨by simp, by simp⟩
theorem wb_W {b : List Int} (h : bytesOk b) (i : Nat) : isW (wb b i) := by
  unfold wb
  obtain ⟨n1, e1, l1⟩ := byte_shl (rd_byte h ((4 * i : Nat) : Int)).1 (rd_byte h _).2 24 (by omega)
  obtain ⟨n2, e2, l2⟩ := byte_shl (rd_byte h ((4 * i + 1 : Nat) : Int)).1 (rd_byte h _).2 16 (by omega)
  obtain ⟨n3, e3, l3⟩ := byte_shl (rd_byte h ((4 * i + 2 : Nat) : Int)).1 (rd_byte h _).2 8 (by omega)
  have h4 := rd_byte h ((4 * i + 3 : Nat) : Int)
  have e4 := w64 (n := rdI b ((4 * i + 3 : Nat) : Int)) (by omega) (by omega)
  rw [e4]
  obtain ⟨n4, e5⟩ := Int.eq_ofNat_of_zero_le h4.1
  have l4 : n4 < 2 ^ 32 := by omega
  have f1 : shlI .i64 (wrap64 (rdI b ((4 * i : Nat) : Int))) 24 = (n1 : Int) := e1
  have f2 : shlI .i64 (wrap64 (rdI b ((4 * i + 1 : Nat) : Int))) 16 = (n2 : Int) := e2
  have f3 : shlI .i64 (wrap64 (rdI b ((4 * i + 2 : Nat) : Int))) 8 = (n3 : Int) := e3
  rw [f1, f2, f3, e5, (bits_w l1 l2).2.1, (bits_w (Nat.or_lt_two_pow l1 l2) l3).2.1, (bits_w (Nat.or_lt_two_pow (Nat.or_lt_two_pow l1 l2) l3) l4).2.1]
  exact nat_W (Nat.or_lt_two_pow (Nat.or_lt_two_pow (Nat.or_lt_two_pow l1 l2) l3) l4)
end Go.Proofs.YtbpcnodmgphinaaG
namespace Go.Proofs.YtbpcnodmgphinaaG
open Go Go.Proofs.YtbpcnodmgphinaaRv Go.RowKit
set_option linter.unusedVariables false
set_option linter.unusedSimpArgs false

theorem rdI_app {l m : List Int} {n : Nat} (h : n < l.length) : rdI (l ++ m) (n : Int) = rdI l (n : Int) := by simp [rdI, List.getD_eq_getElem?_getD, List.getElem?_append_left h]
def pad (w : List Int) : List Int := w ++ List.replicate (64 - w.length) 0
theorem pad_rd {w : List Int} {n : Nat} (h : n < w.length) : rdI (pad w) (n : Int) = rdI w (n : Int) := rdI_app h
theorem pad_set {w : List Int} (h : w.length < 64) (x : Int) : (pad w).set w.length x = pad (w ++ [x]) := by
  unfold pad
  rw [List.set_append_right _ _ (Nat.le_refl _), Nat.sub_self, List.append_assoc]
  have : 64 - w.length = (64 - (w ++ [x]).length) + 1 := by simp; omega
  rw [this, List.replicate_succ]
  simp

theorem sc_def (w : List Int) : sc w = Go.bits .and .i64 (wrap64 (wrap64 (wrap64 (rdI w ((w.length - 16 : Nat) : Int) + Go.bits .xor .i64 (Go.bits .xor .i64 (turn (rdI w ((w.length - 15 : Nat) : Int)) 7) (turn (rdI w ((w.length - 15 : Nat) : Int)) 18)) (shrI .i64 (rdI w ((w.length - 15 : Nat) : Int)) 3)) + rdI w ((w.length - 7 : Nat) : Int)) + Go.bits .xor .i64 (Go.bits .xor .i64 (turn (rdI w ((w.length - 2 : Nat) : Int)) 17) (turn (rdI w ((w.length - 2 : Nat) : Int)) 19)) (shrI .i64 (rdI w ((w.length - 2 : Nat) : Int)) 10))) 4294967295 := rfl
section
variable (y0 y1 y2 : Bool) (h b : List Int)

theorem impl_rounds.ev : Ev (fun k => impl_rounds.f k) (false, shaK) := by
  refine ev_step ?_
  simp only [impl_rounds.f, impl_rounds.b]
  exact ev_some rfl

theorem impl_ShaBlock.ev4 (v : List Int) (hh : h.length = 8) : ∀ (d i : Nat), i + d = 8 → Ev (fun k => impl_ShaBlock.l4 k y0 h (outs h v i) (i : Int) v) (false, outs h v 8)
  | 0, i, hi => by
    obtain rfl : i = 8 := by omega
    refine ev_step ?_
    simp only [impl_ShaBlock.l4, impl_ShaBlock.l4b]
    exact ev_neg (by omega) (ev_some rfl)
  | d + 1, i, hi => by
    refine ev_step ?_
    simp only [impl_ShaBlock.l4, impl_ShaBlock.l4b]
    have hl := (outs_W h v i).2
    refine ev_pos (by omega) (ev_pos (by omega) (ev_pos (by omega) (ev_pos (by omega) (ev_pos (by omega) (ev_pos (by omega) ?_)))))
    have e : wrap64 ((i : Int) + 1) = ((i + 1 : Nat) : Int) := by unfold wrap64; omega
    rw [e]
    have e2 : outs h v i ++ [Go.bits .and .i64 (wrap64 (rdI h (i : Int) + rdI v (i : Int))) 4294967295] = outs h v (i + 1) := by simp [outs, List.range_succ]
    rw [e2]
    exact impl_ShaBlock.ev4 v hh d (i + 1) (by omega)
theorem impl_ShaBlock.ev3 (hh : h.length = 8) (W : List Int) (hW : Ws W) (hWl : W.length = 64) : ∀ (d i : Nat) (v : List Int), i + d = 64 → Ws v → v.length = 8 → Ev (fun k => impl_ShaBlock.l3 k y0 h false shaK (i : Int) W v) (false, outs h (rnds shaK W d i v) 8)
  | 0, i, v, hi, hv, hl => by
    obtain rfl : i = 64 := by omega
    refine ev_step ?_
    simp only [impl_ShaBlock.l3, impl_ShaBlock.l3b]
    exact ev_neg (by omega) (impl_ShaBlock.ev4 y0 h v hh 8 0 (by omega))
  | d + 1, i, v, hi, hv, hl => by
    refine ev_step ?_
    simp only [impl_ShaBlock.l3, impl_ShaBlock.l3b]
    have hk : shaK.length = 64 := rfl
    have r := fun j => Ws_rd hv j
    refine ev_pos (by omega) (Ev.bind (impl_TurnRight.ev _ _ (r 4) (by omega) (by omega)) (Ev.bind (impl_TurnRight.ev _ _ (r 4) (by omega) (by omega)) (Ev.bind (impl_TurnRight.ev _ _ (r 4) (by omega) (by omega)) ?_)))
    refine ev_pos (by omega) (ev_pos (by omega) (ev_pos (by omega) (ev_pos (by omega) ?_)))
    refine Ev.bind (impl_TurnRight.ev _ _ (r 0) (by omega) (by omega)) (Ev.bind (impl_TurnRight.ev _ _ (r 0) (by omega) (by omega)) (Ev.bind (impl_TurnRight.ev _ _ (r 0) (by omega) (by omega)) ?_))
    have e : wrap64 ((i : Int) + 1) = ((i + 1 : Nat) : Int) := by unfold wrap64; omega
    rw [e, ch_eq (r 4) (r 5) (r 6), maj_eq (r 0) (r 1) (r 2)]
    exact impl_ShaBlock.ev3 hh W hW hWl d (i + 1) (rnd shaK W i v) (by omega) (rnd_W _ _ _ hv).1 rfl
theorem impl_ShaBlock.ev2 (hh : h.length = 8) (hw : Ws h) : ∀ (d : Nat) (W : List Int), W.length + d = 64 → 16 ≤ W.length → Ws W → Ev (fun k => impl_ShaBlock.l2 k y0 h false shaK (W.length : Int) (pad W)) (false, outs h (rnds shaK (grow W d) 64 0 h) 8)
  | 0, W, hi, h16, hW => by
    refine ev_step ?_
    simp only [impl_ShaBlock.l2, impl_ShaBlock.l2b]
    have e : h.take 8 ++ ([0, 0, 0, 0, 0, 0, 0, 0] : List Int).drop h.length = h := by
      rw [List.take_of_length_le (by omega), hh]
      simp
    have ep : pad W = W := by
      have : 64 - W.length = 0 := by omega
      simp [pad, this]
    rw [e, ep]
    exact ev_neg (by omega) (impl_ShaBlock.ev3 y0 h hh W hW (by omega) 64 0 h (by omega) hw hh)
  | d + 1, W, hi, h16, hW => by
    have hw2 : W.length < 64 := by omega
    have hl : (W ++ [sc W]).length = W.length + 1 := by simp
    have ih := impl_ShaBlock.ev2 hh hw d (W ++ [sc W]) (by omega) (by omega) (grow_W 1 W hW)
    rw [hl, ← pad_set hw2] at ih
    refine ev_step ?_
    simp only [impl_ShaBlock.l2, impl_ShaBlock.l2b]
    have a15 : wrap64 ((W.length : Int) - 15) = ((W.length - 15 : Nat) : Int) := by unfold wrap64; omega
    have a2 : wrap64 ((W.length : Int) - 2) = ((W.length - 2 : Nat) : Int) := by unfold wrap64; omega
    have a16 : wrap64 ((W.length : Int) - 16) = ((W.length - 16 : Nat) : Int) := by unfold wrap64; omega
    have a7 : wrap64 ((W.length : Int) - 7) = ((W.length - 7 : Nat) : Int) := by unfold wrap64; omega
    rw [a15, a2, a16, a7, pad_rd (n := W.length - 15) (by omega), pad_rd (n := W.length - 2) (by omega), pad_rd (n := W.length - 16) (by omega), pad_rd (n := W.length - 7) (by omega)]
    clear a15 a2 a16 a7
    have r := fun j => Ws_rd hW j
    refine ev_pos (by omega) (ev_pos (by omega) (ev_pos (by omega) (ev_pos (by omega) (ev_pos (by omega) ?_))))
    refine Ev.bind (impl_TurnRight.ev _ _ (r _) (by omega) (by omega)) (Ev.bind (impl_TurnRight.ev _ _ (r _) (by omega) (by omega)) (Ev.bind (impl_TurnRight.ev _ _ (r _) (by omega) (by omega)) (Ev.bind (impl_TurnRight.ev _ _ (r _) (by omega) (by omega)) ?_)))
    refine ev_pos (by omega) (ev_pos (by omega) (ev_pos (by omega) (ev_pos (by omega) (ev_pos (by omega) (ev_pos (by omega) ?_)))))
    have e : wrap64 ((W.length : Int) + 1) = ((W.length + 1 : Nat) : Int) := by unfold wrap64; omega
    rw [e, Int.toNat_natCast, ← sc_def]
    exact ih
theorem impl_ShaBlock.ev1 (hh : h.length = 8) (hw : Ws h) (hb : b.length = 64) (hbb : bytesOk b) : ∀ (d i : Nat), i + d = 16 → Ev (fun k => impl_ShaBlock.l1 k y0 h y1 b false shaK (i : Int) (pad ((List.range i).map (wb b)))) (false, shaBlk h b)
  | 0, i, hi => by
    obtain rfl : i = 16 := by omega
    refine ev_step ?_
    simp only [impl_ShaBlock.l1, impl_ShaBlock.l1b]
    have := impl_ShaBlock.ev2 y0 h hh hw 48 ((List.range 16).map (wb b)) (by simp) (by simp) (fun x hx => by
      obtain ⟨i, _, rfl⟩ := List.mem_map.1 hx
      exact wb_W hbb i)
    have hl : ((List.range 16).map (wb b)).length = 16 := by simp
    rw [hl] at this
    exact ev_neg (by omega) this
  | d + 1, i, hi => by
    refine ev_step ?_
    simp only [impl_ShaBlock.l1, impl_ShaBlock.l1b]
    have e4 : wrap64 ((4 : Int) * (i : Int)) = ((4 * i : Nat) : Int) := by unfold wrap64; omega
    have e41 : wrap64 (((4 * i : Nat) : Int) + 1) = ((4 * i + 1 : Nat) : Int) := by unfold wrap64; omega
    have e42 : wrap64 (((4 * i : Nat) : Int) + 2) = ((4 * i + 2 : Nat) : Int) := by unfold wrap64; omega
    have e43 : wrap64 (((4 * i : Nat) : Int) + 3) = ((4 * i + 3 : Nat) : Int) := by unfold wrap64; omega
    have e : wrap64 ((i : Int) + 1) = ((i + 1 : Nat) : Int) := by unfold wrap64; omega
    rw [e4, e41, e42, e43, e]
    clear e4 e41 e42 e43 e
    refine ev_pos (by omega) (ev_pos (by omega) (ev_pos (by omega) (ev_pos (by omega) (ev_pos (by omega) (ev_pos (by omega) (ev_pos (by omega) (ev_pos (by omega) (ev_pos (by omega) (ev_pos (by omega) (ev_pos (by omega) ?_))))))))))
    have ih := impl_ShaBlock.ev1 hh hw hb hbb d (i + 1) (by omega)
    have hs := pad_set (w := (List.range i).map (wb b)) (by simp; omega) (wb b i)
    have hl : ((List.range i).map (wb b)).length = i := by simp
    rw [hl] at hs
    rw [List.range_succ, List.map_append, List.map_singleton, ← hs] at ih
    rw [Int.toNat_natCast]
    exact ih
theorem impl_ShaBlock.ev0 (hh : h.length = 8) (hw : Ws h) (hb : b.length = 64) (hbb : bytesOk b) : ∀ (d i : Nat), i + d = 8 → Ev (fun k => impl_ShaBlock.l0 k y0 h y1 b y2 h (h.length : Int) (i : Int)) (false, shaBlk h b)
  | 0, i, hi => by
    obtain rfl : i = 8 := by omega
    refine ev_step ?_
    simp only [impl_ShaBlock.l0, impl_ShaBlock.l0b]
    exact ev_neg (by omega) (Ev.bind impl_rounds.ev (impl_ShaBlock.ev1 y0 y1 h b hh hw hb hbb 16 0 (by omega)))
  | d + 1, i, hi => by
    refine ev_step ?_
    simp only [impl_ShaBlock.l0, impl_ShaBlock.l0b]
    have e : wrap64 ((i : Int) + 1) = ((i + 1 : Nat) : Int) := by unfold wrap64; omega
    have hx := Ws_rd hw (i : Int)
    rw [e]
    exact ev_pos (by omega) (ev_pos (by omega) (ev_pos (by omega) (Ev.bind (impl_isWord.ev _) (ev_neg (by simp [hx.1, hx.2]) (impl_ShaBlock.ev0 hh hw hb hbb d (i + 1) (by omega))))))
theorem impl_ShaBlock.ev (hh : h.length = 8) (hw : Ws h) (hb : b.length = 64) (hbb : bytesOk b) : Ev (fun k => impl_ShaBlock.f k y0 h y1 b) (false, shaBlk h b) := by
  refine ev_step ?_
  simp only [impl_ShaBlock.f, impl_ShaBlock.b]
  exact ev_neg (by simp; omega) (ev_neg (by simp; omega) (impl_ShaBlock.ev0 y0 y1 y0 h b hh hw hb hbb 8 0 (by omega)))


theorem shaBlk_W : Ws (shaBlk h b) ∧ (shaBlk h b).length = 8 := outs_W _ _ _
end
end Go.Proofs.YtbpcnodmgphinaaG
namespace Go.Proofs.YtbpcnodmgphinaaG
open Go Go.Proofs.YtbpcnodmgphinaaRv Go.RowKit
set_option linter.unusedVariables false
set_option linter.unusedSimpArgs false


def padz : Nat → List Int → List Int
  | 0, l => l
  | d + 1, l => if l.length % 64 = 56 then l else padz d (l ++ [0])
theorem padz_spec : ∀ (d : Nat) (l : List Int), (∃ j, j ≤ d ∧ (l.length + j) % 64 = 56) → (padz d l).length % 64 = 56 ∧ (padz d l).length ≤ l.length + d ∧ (bytesOk l → bytesOk (padz d l))
  | 0, l, ⟨j, h1, h2⟩ => by
    obtain rfl : j = 0 := by omega
    exact ⟨by simpa [padz] using h2, by simp [padz], fun h => h⟩
  | d + 1, l, ⟨j, h1, h2⟩ => by
    unfold padz
    split
    · rename_i h
      exact ⟨h, by omega, fun h => h⟩
    · rename_i h
      have hj : j ≠ 0 := fun e => h (by rw [← h2, e, Nat.add_zero])
      obtain ⟨p1, p2, p3⟩ := padz_spec d (l ++ [0]) ⟨j - 1, by omega, by simp only [List.length_append, List.length_singleton]; rw [← h2]; congr 1; omega⟩
      refine ⟨p1, by simp only [List.length_append, List.length_singleton] at p2; omega, fun hb => p3 fun x hx => ?_⟩
      rcases List.mem_append.1 hx with hx | hx
      · exact hb x hx
      · rw [List.mem_singleton.1 hx]; omega
def padl (n : Int) : Nat → List Int → List Int
  | 0, l => l
  | d + 1, l => padl n d (l ++ [(shrI .i64 n (wrap64 ((8 : Int) * (d : Int)))) % 256])
theorem padl_spec (n : Int) : ∀ (d : Nat) (l : List Int), (padl n d l).length = l.length + d ∧ (bytesOk l → bytesOk (padl n d l))
  | 0, l => ⟨rfl, fun h => h⟩
  | d + 1, l => by
    obtain ⟨h1, h2⟩ := padl_spec n d (l ++ [(shrI .i64 n (wrap64 ((8 : Int) * (d : Int)))) % 256])
    refine ⟨by rw [padl, h1]; simp; omega, fun hb => h2 fun x hx => ?_⟩
    rcases List.mem_append.1 hx with hx | hx
    · exact hb x hx
    · rw [List.mem_singleton.1 hx]; omega
def shaPadV (l : List Int) : List Int := padl (wrap64 ((8 : Int) * (l.length : Int))) 8 (padz 64 (l ++ [128]))
theorem mod_ex (n : Nat) : ∃ j, j ≤ 64 ∧ (n + j) % 64 = 56 := ⟨(56 + 64 - n % 64) % 64, by omega, by omega⟩
theorem shaPadV_spec (l : List Int) (hb : bytesOk l) : (shaPadV l).length % 64 = 0 ∧ (shaPadV l).length ≤ l.length + 73 ∧ bytesOk (shaPadV l) := by
  obtain ⟨p1, p2, p3⟩ := padz_spec 64 (l ++ [128]) (mod_ex _)
  obtain ⟨q1, q2⟩ := padl_spec (wrap64 ((8 : Int) * (l.length : Int))) 8 (padz 64 (l ++ [128]))
  unfold shaPadV
  simp only [List.length_append, List.length_singleton] at p2
  refine ⟨by omega, by omega, q2 (p3 fun x hx => ?_)⟩
  rcases List.mem_append.1 hx with hx | hx
  · exact hb x hx
  · rw [List.mem_singleton.1 hx]; omega
theorem tmod_len (n : Nat) : Int.tmod (n : Int) 64 = ((n % 64 : Nat) : Int) := by rw [Int.tmod_eq_emod_of_nonneg (by omega)]; omega
theorem dec_nat (d : Nat) (h : d ≤ 100) : wrap64 ((d : Int) - 1) = (d : Int) - 1 := by unfold wrap64; omega
theorem mul8 (d : Nat) (h : d ≤ 100) : (0 : Int) ≤ wrap64 ((8 : Int) * (d : Int)) := by unfold wrap64; omega

section
variable (z : Bool) (l : List Int)
theorem impl_ShaPad.ev1 : ∀ (d : Nat) (acc : List Int), d ≤ 8 → acc.length + d ≤ 1073741840 → Ev (fun k => impl_ShaPad.l1 k z l acc ((d : Int) - 1)) (false, padl (wrap64 ((8 : Int) * (l.length : Int))) d acc)
  | 0, acc, h8, ha => by
    refine ev_step ?_
    simp only [impl_ShaPad.l1, impl_ShaPad.l1b]
    exact ev_neg (by omega) (ev_some rfl)
  | d + 1, acc, h8, ha => by
    refine ev_step ?_
    have ih := impl_ShaPad.ev1 d (acc ++ [(shrI .i64 (wrap64 ((8 : Int) * (l.length : Int))) (wrap64 ((8 : Int) * (d : Int)))) % 256]) (by omega) (by simp; omega)
    simp only [impl_ShaPad.l1, impl_ShaPad.l1b]
    have e : (((d + 1 : Nat) : Int) - 1) = (d : Int) := by omega
    rw [e, dec_nat d (by omega)]
    exact ev_pos (by omega) (ev_pos (mul8 d (by omega)) (ev_pos (by omega) ih))
theorem impl_ShaPad.ev0 : ∀ (d : Nat) (acc : List Int), (∃ j, j ≤ d ∧ (acc.length + j) % 64 = 56) → acc.length + d ≤ 1073741800 → Ev (fun k => impl_ShaPad.l0 k z l acc) (false, padl (wrap64 ((8 : Int) * (l.length : Int))) 8 (padz d acc))
  | 0, acc, ⟨j, h1, h2⟩, ha => by
    obtain rfl : j = 0 := by omega
    refine ev_step ?_
    simp only [impl_ShaPad.l0, impl_ShaPad.l0b, tmod_len]
    exact ev_neg (by simp; omega) (impl_ShaPad.ev1 z l 8 acc (by omega) (by omega))
  | d + 1, acc, hj, ha => by
    refine ev_step ?_
    simp only [impl_ShaPad.l0, impl_ShaPad.l0b, tmod_len]
    unfold padz
    split
    · rename_i h
      exact ev_neg (by simp; omega) (impl_ShaPad.ev1 z l 8 acc (by omega) (by omega))
    · rename_i h
      obtain ⟨j, h1, h2⟩ := hj
      have hj : j ≠ 0 := fun e => h (by rw [← h2, e, Nat.add_zero])
      exact ev_pos (by simp; omega) (ev_pos (by omega) (impl_ShaPad.ev0 d (acc ++ [0]) ⟨j - 1, by omega, by simp only [List.length_append, List.length_singleton]; rw [← h2]; congr 1; omega⟩ (by simp; omega)))
theorem impl_ShaPad.ev (h : l.length ≤ 1073741000) : Ev (fun k => impl_ShaPad.f k z l) (false, shaPadV l) := by
  refine ev_step ?_
  simp only [impl_ShaPad.f, impl_ShaPad.b]
  exact Ev.bind (impl_copyBytes.ev z l (by omega)) (ev_pos (by show l.length + 1 < _; omega) (impl_ShaPad.ev0 z l 64 (l ++ [128]) (mod_ex _) (by simp; omega)))
end


def shaH0 : List Int := [1779033703, 3144134277, 1013904242, 2773480762, 1359893119, 2600822924, 528734635, 1541459225]
theorem shaH0_W : Ws shaH0 ∧ shaH0.length = 8 := by
  refine ⟨fun x hx => ?_, rfl⟩
  simp only [shaH0, List.mem_cons, List.not_mem_nil, or_false] at hx
  rcases hx with rfl | rfl | rfl | rfl | rfl | rfl | rfl | rfl <;> exact ⟨by omega, by omega⟩
def shaL (p : List Int) : Nat → Nat → List Int → List Int
  | 0, _, h => h
  | d + 1, i, h => shaL p d (i + 1) (shaBlk h ((p.take (64 * i + 64)).drop (64 * i)))
theorem shaL_W (p : List Int) : ∀ (d i : Nat) (h : List Int), Ws h ∧ h.length = 8 → Ws (shaL p d i h) ∧ (shaL p d i h).length = 8
  | 0, i, h, hh => hh
  | d + 1, i, h, hh => shaL_W p d (i + 1) _ (shaBlk_W _ _)
def four (x : Int) : List Int := [(shrI .i64 x 24) % 256, (shrI .i64 x 16) % 256, (shrI .i64 x 8) % 256, x % 256]
def sha (l : List Int) : List Int := (shaL (shaPadV l) ((shaPadV l).length / 64) 0 shaH0).flatMap four
theorem flat4 (h : List Int) : (h.flatMap four).length = 4 * h.length ∧ bytesOk (h.flatMap four) := by
  induction h with
  | nil => exact ⟨rfl, fun x hx => by simp at hx⟩
  | cons a t ih =>
    refine ⟨by rw [List.flatMap_cons, List.length_append, ih.1]; simp [four]; omega, fun x hx => ?_⟩
    rw [List.flatMap_cons] at hx
    rcases List.mem_append.1 hx with hx | hx
    · simp only [four, List.mem_cons, List.not_mem_nil, or_false] at hx
      rcases hx with rfl | rfl | rfl | rfl <;> omega
    · exact ih.2 x hx
theorem sha_spec (l : List Int) : (sha l).length = 32 ∧ bytesOk (sha l) := by
  obtain ⟨h1, h2⟩ := shaL_W (shaPadV l) ((shaPadV l).length / 64) 0 shaH0 shaH0_W
  obtain ⟨h3, h4⟩ := flat4 (shaL (shaPadV l) ((shaPadV l).length / 64) 0 shaH0)
  exact ⟨by unfold sha; rw [h3, h2], h4⟩
theorem cut64 {p : List Int} {i : Nat} (h : 64 * i + 64 ≤ p.length) : ((p.take (64 * i + 64)).drop (64 * i)).length = 64 := by simp; omega
theorem cut_ok {p : List Int} (h : bytesOk p) (a b : Nat) : bytesOk ((p.take a).drop b) := fun x hx => h x (List.mem_of_mem_take (List.mem_of_mem_drop hx))
theorem step64 (i : Nat) (h : i ≤ 100000000) : wrap64 (((64 * i : Nat) : Int) + 64) = ((64 * i + 64 : Nat) : Int) := by unfold wrap64; omega

theorem impl_ShaInit.ev : Ev (fun k => impl_ShaInit.f k) (false, shaH0) := by
  refine ev_step ?_
  simp only [impl_ShaInit.f, impl_ShaInit.b]
  exact ev_some rfl
theorem succ_nat (i : Nat) (h : i ≤ 1000000000) : wrap64 ((i : Int) + 1) = ((i + 1 : Nat) : Int) := by unfold wrap64; omega
theorem impl_Sha.ev1 (z : Bool) (h : List Int) (hh : h.length = 8) : ∀ (d i : Nat) (acc : List Int), i + d = 8 → acc.length = 4 * i → Ev (fun k => impl_Sha.l1 k acc z h (h.length : Int) (i : Int)) (false, acc ++ (h.drop i).flatMap four)
  | 0, i, acc, hi, ha => by
    refine ev_step ?_
    simp only [impl_Sha.l1, impl_Sha.l1b]
    refine ev_neg (by omega) (ev_some ?_)
    rw [List.drop_of_length_le (by omega)]
    simp
  | d + 1, i, acc, hi, ha => by
    have hlt : i < h.length := by omega
    refine ev_step ?_
    have ih := impl_Sha.ev1 z h hh d (i + 1) (acc ++ four h[i]) (by omega) (by simp [four]; omega)
    simp only [impl_Sha.l1, impl_Sha.l1b, rdI_nat hlt, succ_nat i (by omega)]
    refine ev_pos (by omega) (ev_pos (by omega) (ev_pos (by omega) (ev_pos (by omega) (ev_to ih ?_))))
    rw [List.drop_eq_getElem_cons hlt, List.flatMap_cons, List.append_assoc]
theorem impl_Sha.ev0 (z : Bool) (p : List Int) (hb : bytesOk p) (m : Nat) (hp : p.length = 64 * m) (hm : m ≤ 100000000) : ∀ (d i : Nat) (y : Bool) (h : List Int), i + d = m → Ws h ∧ h.length = 8 → Ev (fun k => impl_Sha.l0 k y h z p ((64 * i : Nat) : Int)) (false, (shaL p d i h).flatMap four)
  | 0, i, y, h, hi, hh => by
    refine ev_step ?_
    simp only [impl_Sha.l0, impl_Sha.l0b]
    refine ev_neg (by omega) (ev_to (impl_Sha.ev1 y h hh.2 8 0 [] (by omega) rfl) ?_)
    simp [shaL]
  | d + 1, i, y, h, hi, hh => by
    refine ev_step ?_
    have ih := impl_Sha.ev0 z p hb m hp hm d (i + 1) false (shaBlk h ((p.take (64 * i + 64)).drop (64 * i))) (by omega) (shaBlk_W _ _)
    simp only [impl_Sha.l0, impl_Sha.l0b, step64 i (by omega), Int.toNat_natCast]
    exact ev_pos (by omega) (ev_pos (by omega) (ev_pos (by omega) (ev_pos (by omega) (ev_pos (by omega) (Ev.bind (impl_ShaBlock.ev y z h _ hh.2 hh.1 (cut64 (by omega)) (cut_ok hb _ _)) ih)))))
theorem impl_Sha.ev (z : Bool) (l : List Int) (h : l.length ≤ 1073741000) (hb : bytesOk l) : Ev (fun k => impl_Sha.f k z l) (false, sha l) := by
  refine ev_step ?_
  simp only [impl_Sha.f, impl_Sha.b]
  obtain ⟨p1, p2, p3⟩ := shaPadV_spec l hb
  exact Ev.bind impl_ShaInit.ev (Ev.bind (impl_ShaPad.ev z l h) (impl_Sha.ev0 false (shaPadV l) p3 ((shaPadV l).length / 64) (by omega) (by omega) ((shaPadV l).length / 64) 0 false shaH0 (by omega) shaH0_W))

def macKey (l : List Int) : List Int := let k := if l.length > 64 then sha l else l; k ++ List.replicate (64 - k.length) 0
def xorB (c x : Int) : Int := Go.bits .xor .u8 c x
theorem xorB_ok (c x : Int) : 0 ≤ xorB c x ∧ xorB c x < 256 := by
  unfold xorB
  simp only [Go.bits]
  show 0 ≤ IntKind.u8.wrap _ ∧ IntKind.u8.wrap _ < 256
  rw [IntKind.wrap_u8]
  omega
def mac (key b : List Int) : List Int := sha ((macKey key).map (fun c => xorB c 92) ++ sha ((macKey key).map (fun c => xorB c 54) ++ b))
theorem macKey_len (l : List Int) : (macKey l).length = 64 ∧ (bytesOk l → bytesOk (macKey l)) := by
  have hs := sha_spec l
  unfold macKey
  by_cases h : l.length > 64
  · rw [if_pos h]
    refine ⟨by simp [hs.1], fun _ x hx => ?_⟩
    rcases List.mem_append.1 hx with hx | hx
    · exact hs.2 x hx
    · rw [List.eq_of_mem_replicate hx]; omega
  · rw [if_neg h]
    refine ⟨by simp; omega, fun hb x hx => ?_⟩
    rcases List.mem_append.1 hx with hx | hx
    · exact hb x hx
    · rw [List.eq_of_mem_replicate hx]; omega
theorem front (k : List Int) (h : k.length ≤ 64) : k.take (List.replicate 64 (0 : Int)).length ++ (List.replicate 64 (0 : Int)).drop k.length = k ++ List.replicate (64 - k.length) 0 := by
  rw [List.length_replicate, List.take_of_length_le h, List.drop_replicate]
theorem impl_MacKey.ev (z : Bool) (l : List Int) (h : l.length ≤ 1073741000) (hb : bytesOk l) : Ev (fun k => impl_MacKey.f k z l) (false, macKey l) := by
  have hs := sha_spec l
  refine ev_step ?_
  simp only [impl_MacKey.f, impl_MacKey.b]
  refine ev_ite (fun c => Ev.bind (impl_Sha.ev z l h hb) (ev_some ?_)) (fun c => ev_some ?_)
  · have c' : l.length > 64 := by omega
    rw [front (sha l) (by omega), macKey, if_pos c']
  · have c' : ¬ l.length > 64 := by omega
    rw [front l (by omega), macKey, if_neg c']
theorem impl_masked.ev0 (z : Bool) (l : List Int) (h : l.length ≤ 1073741) (x : Int) : ∀ (d i : Nat) (acc : List Int), i + d = l.length → acc.length = i → Ev (fun k => impl_masked.l0 k x acc z l (l.length : Int) (i : Int)) (false, acc ++ (l.drop i).map fun c => xorB c x)
  | 0, i, acc, hi, ha => by
    refine ev_step ?_
    simp only [impl_masked.l0, impl_masked.l0b]
    refine ev_neg (by omega) (ev_some ?_)
    rw [List.drop_of_length_le (by omega)]
    simp
  | d + 1, i, acc, hi, ha => by
    have hlt : i < l.length := by omega
    refine ev_step ?_
    have ih := impl_masked.ev0 z l h x d (i + 1) (acc ++ [xorB l[i] x]) (by omega) (by simp; omega)
    simp only [impl_masked.l0, impl_masked.l0b, rdI_nat hlt, succ_nat i (by omega)]
    refine ev_pos (by omega) (ev_pos (by omega) (ev_pos (by omega) (ev_pos (by omega) (ev_to ih ?_))))
    rw [List.drop_eq_getElem_cons hlt, List.map_cons, List.append_assoc, List.singleton_append]
theorem impl_masked.ev (z : Bool) (l : List Int) (h : l.length ≤ 1073741) (x : Int) : Ev (fun k => impl_masked.f k z l x) (false, l.map fun c => xorB c x) := by
  refine ev_step ?_
  simp only [impl_masked.f, impl_masked.b]
  exact ev_to (impl_masked.ev0 z l h x l.length 0 [] (by omega) rfl) (by simp)
theorem xors_ok (l : List Int) (x : Int) : bytesOk (l.map fun c => xorB c x) := fun y hy => by
  obtain ⟨c, _, rfl⟩ := List.mem_map.1 hy
  exact xorB_ok c x
theorem app_ok {a b : List Int} (ha : bytesOk a) (hb : bytesOk b) : bytesOk (a ++ b) := fun x hx => by
  rcases List.mem_append.1 hx with hx | hx
  · exact ha x hx
  · exact hb x hx
theorem impl_Mac.ev (y z : Bool) (key b : List Int) (h : key.length ≤ 1073741000) (hk : bytesOk key) (hb : b.length ≤ 1048576) (hbb : bytesOk b) : Ev (fun k => impl_Mac.f k y key z b) (false, mac key b) := by
  obtain ⟨m1, m2⟩ := macKey_len key
  have s1 := sha_spec ((macKey key).map (fun c => xorB c 54) ++ b)
  refine ev_step ?_
  simp only [impl_Mac.f, impl_Mac.b]
  refine Ev.bind (impl_MacKey.ev y key h hk) (Ev.bind (impl_masked.ev _ _ (by show (macKey key).length ≤ _; omega) 92) (Ev.bind (impl_masked.ev _ _ (by show (macKey key).length ≤ _; omega) 54) (ev_pos (by simp [m1]; omega) (Ev.bind (impl_Sha.ev _ _ (by simp [m1]; omega) (app_ok (xors_ok _ _) hbb)) (ev_pos (by simp [m1, s1.1]) (Ev.bind (impl_Sha.ev _ _ (by simp [m1, s1.1]) (app_ok (xors_ok _ _) s1.2)) (ev_some rfl)))))))
end Go.Proofs.YtbpcnodmgphinaaG
namespace Go.Proofs.YtbpcnodmgphinaaG
open Go Go.Proofs.YtbpcnodmgphinaaRv Go.RowKit
set_option linter.unusedVariables false
set_option linter.unusedSimpArgs false


def Row.ok (r : Row) : Prop := r.f1.length ≤ 1048576 ∧ bytesOk r.f1
def Rows (l : List Row) : Prop := l.length ≤ 1048576 ∧ ∀ r ∈ l, r.ok
def noEntry : Int × Int × Bool × List Int × Bool := (0, 0, true, [], false)
def signLeave (l : List Row) (view high who : Int) : Int × Int × Bool × List Int × Bool :=
  if tabOk l = true ∧ (leaveV view high).1 = false ∧ (0 ≤ who ∧ who ≤ (l.length : Int) - 1) ∧ ¬ high ≥ view then (who, high, false, mac (l.getD who.toNat default).f1 (leaveV view high).2, true) else noEntry
theorem impl_SignLeave.ev (z : Bool) (l : List Row) (h : Rows l) (view high who : Int) : Ev (fun k => impl_SignLeave.f k z (l.map Row.t) view high who) (signLeave l view high who) := by
  have hl := h.1
  have lb := leaveV_len view high
  refine ev_step ?_
  simp only [impl_SignLeave.f, impl_SignLeave.b, List.length_map]
  have e1 : wrap64 ((l.length : Int) - 1) = (l.length : Int) - 1 := w64 (by omega) (by omega)
  rw [e1]
  clear e1
  refine Ev.bind (impl_LeaveBytes.ev view high) (Ev.bind (impl_TableOk.ev z l h.1) (ev_ite (fun c => ev_some ?_) fun c1 => ev_ite (fun c => ev_some ?_) fun c2 => Ev.bind (impl_within.ev _ _ _) (ev_ite (fun c => ev_some ?_) fun c3 => ev_ite (fun c => ev_some ?_) fun c4 => ?_)))
  · unfold signLeave; rw [if_neg fun hh => c hh.1]; rfl
  · unfold signLeave; rw [if_neg fun hh => by rw [hh.2.1] at c; cases c]; rfl
  · unfold signLeave; rw [if_neg fun hh => c (by simpa using hh.2.2.1)]; rfl
  · unfold signLeave; rw [if_neg fun hh => hh.2.2.2 c]; rfl
  · have c3' : 0 ≤ who ∧ who ≤ (l.length : Int) - 1 := by simpa using c3
    obtain ⟨n, rfl⟩ := Int.eq_ofNat_of_zero_le c3'.1
    have hn : n < l.length := by omega
    have hr := h.2 _ (List.getElem_mem hn)
    rw [Int.toNat_natCast, row_at hn, Row.c1, Row.c1z]
    refine ev_pos (by omega) (ev_pos (by omega) (Ev.bind (impl_Mac.ev _ _ _ _ (by have := hr.1; omega) hr.2 (by have := lb.1; omega) (leaveV_nice view high)) (ev_some ?_)))
    unfold signLeave
    rw [if_pos ⟨by simpa using c1, by simpa using c2, c3', c4⟩]
    simp [hn]
def entryGood (l : List Row) (view who high : Int) (tag : List Int) : Bool := (signLeave l view high who).2.2.2.2 && sameB (signLeave l view high who).2.2.2.1 tag
theorem impl_EntryGood.ev (z : Bool) (l : List Row) (h : Rows l) (view who high : Int) (y : Bool) (tag : List Int) : Ev (fun k => impl_EntryGood.f k z (l.map Row.t) view who high y tag) (entryGood l view who high tag) := by
  refine ev_step ?_
  simp only [impl_EntryGood.f, impl_EntryGood.b]
  refine Ev.bind (impl_SignLeave.ev z l h view high who) (ev_ite (fun c => ?_) fun c => ev_some ?_)
  · have h1 : (signLeave l view high who).1 = who ∧ (signLeave l view high who).2.1 = high := by
      unfold signLeave at c ⊢
      split at c
      · rename_i hh; rw [if_pos hh]; exact ⟨rfl, rfl⟩
      · cases c
    have he : Ev (fun k => impl_entrySame.f k (signLeave l view high who).1 (signLeave l view high who).2.1 (signLeave l view high who).2.2.1 (signLeave l view high who).2.2.2.1 who high y tag) (sameB (signLeave l view high who).2.2.2.1 tag) := by
      refine ev_step ?_
      simp only [impl_entrySame.f, impl_entrySame.b]
      exact ev_pos h1.1 (ev_pos h1.2 (Ev.bind (impl_SameBytes.ev _ _ _ _) (ev_some rfl)))
    refine Ev.bind he (ev_some ?_)
    rw [entryGood, c]; rfl
  · rw [entryGood]
    have : (signLeave l view high who).2.2.2.2 = false := by simpa using c
    rw [this]; rfl


end Go.Proofs.YtbpcnodmgphinaaG
namespace Go.Proofs.YtbpcnodmgphinaaG
open Go Go.Proofs.YtbpcnodmgphinaaRv Go.RowKit
set_option linter.unusedVariables false
set_option linter.unusedSimpArgs false

def voteV (a b : Int) (h : List Int) : Bool × List Int := if isNum a = true ∧ isNum b = true ∧ h.length = 32 then (false, 86 :: (vint 8 a ++ (vint 8 b ++ h))) else (true, [])
theorem impl_areHashes.ev1 (y z : Bool) (l : List Int) : Ev (fun k => impl_areHashes.f k y [.nums 5 .u8 z l]) (decide (l.length = 32)) := by
  refine ev_step ?_
  simp only [impl_areHashes.f, impl_areHashes.b]
  refine ev_step ?_
  simp only [impl_areHashes.l0, impl_areHashes.l0b]
  refine ev_pos (by simp) (ev_pos (by simp) (ev_pos (by simp) ?_))
  have e : (((([.nums 5 .u8 z l] : List T).getD (0 : Int).toNat .bad).cells.getD 0 .bad).toNums) = l := rfl
  rw [e]
  refine ev_ite (fun c => ev_some ?_) (fun c => ?_)
  · have : ¬ l.length = 32 := fun h => c (by omega)
    simp [this]
  · have c' : l.length = 32 := by
      have : (l.length : Int) = 32 := by simpa using c
      omega
    refine ev_step ?_
    simp only [impl_areHashes.l0, impl_areHashes.l0b]
    refine ev_neg (by have : wrap64 ((0 : Int) + 1) = 1 := by unfold wrap64; omega
                      rw [this]; simp) (ev_some (by simp [c']))
theorem impl_VoteBytes.ev (a b : Int) (z : Bool) (h : List Int) (hl : h.length ≤ 1048576) : Ev (fun k => impl_VoteBytes.f k a b z h) (voteV a b h) := by
  have h1 := vint_length 8 a
  have h2 := vint_length 8 b
  refine ev_step ?_
  simp only [impl_VoteBytes.f, impl_VoteBytes.b]
  refine Ev.bind (impl_numbers.ev 86 false [a, b] (by simp)) (ev_ite (fun c => ev_some ?_) fun c => Ev.bind (impl_areHashes.ev1 _ _ _) (ev_ite (fun e => ev_some ?_) fun e => ?_))
  · have : ¬ (isNum a = true ∧ isNum b = true) := fun hh => by simp [numsV, hh.1, hh.2] at c
    by_cases ca : isNum a = true
    · have cb : ¬ isNum b = true := fun hb => this ⟨ca, hb⟩
      simp [voteV, cb]
    · simp [voteV, ca]
  · have e' : ¬ h.length = 32 := by simpa using e
    simp [voteV, e']
  · have hh : isNum a = true ∧ isNum b = true := by
      unfold numsV at c
      split at c
      · rename_i hn
        exact ⟨hn a (by simp), hn b (by simp)⟩
      · exact (c rfl).elim
    have e' : h.length = 32 := by simpa using e
    refine ev_pos (by simp [numsV, hh.1, hh.2]; omega) (ev_some ?_)
    simp [numsV, voteV, hh.1, hh.2, e']
theorem voteV_len (a b : Int) (h : List Int) : (voteV a b h).2.length ≤ 51 ∧ ((voteV a b h).1 = decide ((voteV a b h).2 = [])) := by
  have h1 := vint_length 8 a
  have h2 := vint_length 8 b
  unfold voteV
  split
  · rename_i c
    simp [c.2.2]; omega
  · simp
theorem voteV_nice (a b : Int) {h : List Int} (hh : bytesOk h) : bytesOk (voteV a b h).2 := by
  unfold voteV
  split
  · rename_i c
    intro x hx
    simp only [List.mem_cons, List.mem_append] at hx
    rcases hx with rfl | hx | hx | hx
    · omega
    · exact vint_nice c.1 x hx
    · exact vint_nice c.2.1 x hx
    · exact hh x hx
  · intro x hx; simp at hx
def noVote : Int × Int × Bool × List Int × Int × Bool × List Int × Bool := (0, 0, true, [], 0, true, [], false)
def signVote (l : List Row) (view height : Int) (blk : List Int) (who : Int) : Int × Int × Bool × List Int × Int × Bool × List Int × Bool :=
  if tabOk l = true ∧ (voteV view height blk).1 = false ∧ (0 ≤ who ∧ who ≤ (l.length : Int) - 1) then (view, height, false, blk, who, false, mac (l.getD who.toNat default).f1 (voteV view height blk).2, true) else noVote
theorem impl_SignVote.ev (z : Bool) (l : List Row) (h : Rows l) (view height : Int) (y : Bool) (blk : List Int) (hb : blk.length ≤ 1048576) (hbb : bytesOk blk) (who : Int) : Ev (fun k => impl_SignVote.f k z (l.map Row.t) view height y blk who) (signVote l view height blk who) := by
  have hl := h.1
  have lb := voteV_len view height blk
  refine ev_step ?_
  simp only [impl_SignVote.f, impl_SignVote.b, List.length_map]
  have e1 : wrap64 ((l.length : Int) - 1) = (l.length : Int) - 1 := w64 (by omega) (by omega)
  rw [e1]
  clear e1
  refine Ev.bind (impl_VoteBytes.ev view height y blk hb) (Ev.bind (impl_TableOk.ev z l h.1) (ev_ite (fun c => ev_some ?_) fun c1 => ev_ite (fun c => ev_some ?_) fun c2 => Ev.bind (impl_within.ev _ _ _) (ev_ite (fun c => ev_some ?_) fun c3 => ?_)))
  · unfold signVote; rw [if_neg fun hh => c hh.1]; rfl
  · unfold signVote; rw [if_neg fun hh => by rw [hh.2.1] at c; cases c]; rfl
  · unfold signVote; rw [if_neg fun hh => c (by simpa using hh.2.2)]; rfl
  · have c3' : 0 ≤ who ∧ who ≤ (l.length : Int) - 1 := by simpa using c3
    obtain ⟨n, rfl⟩ := Int.eq_ofNat_of_zero_le c3'.1
    have hn : n < l.length := by omega
    have hr := h.2 _ (List.getElem_mem hn)
    rw [Int.toNat_natCast, row_at hn, Row.c1, Row.c1z]
    refine Ev.bind (impl_copyBytes.ev y blk (by omega)) (ev_pos (by omega) (ev_pos (by omega) (Ev.bind (impl_Mac.ev _ _ _ _ (by have := hr.1; omega) hr.2 (by have := lb.1; omega) (voteV_nice view height hbb)) (ev_some ?_))))
    unfold signVote
    rw [if_pos ⟨by simpa using c1, by simpa using c2, c3'⟩]
    simp [hn]
def voteSame (a1 a2 : Int) (a3 : List Int) (a4 : Int) (a5 : List Int) (b1 b2 : Int) (b3 : List Int) (b4 : Int) (b5 : List Int) : Bool := decide (a1 = b1) && (decide (a2 = b2) && (sameB a3 b3 && (decide (a4 = b4) && sameB a5 b5)))
theorem impl_VoteSame.ev (a1 a2 : Int) (x : Bool) (a3 : List Int) (a4 : Int) (y : Bool) (a5 : List Int) (b1 b2 : Int) (u : Bool) (b3 : List Int) (b4 : Int) (v : Bool) (b5 : List Int) : Ev (fun k => impl_VoteSame.f k a1 a2 x a3 a4 y a5 b1 b2 u b3 b4 v b5) (voteSame a1 a2 a3 a4 a5 b1 b2 b3 b4 b5) := by
  refine ev_step ?_
  simp only [impl_VoteSame.f, impl_VoteSame.b]
  unfold voteSame
  refine ev_ite (fun c1 => ev_ite (fun c2 => ev_ite (fun c4 => Ev.bind (impl_SameBytes.ev _ _ _ _) (ev_ite (fun c3 => Ev.bind (impl_SameBytes.ev _ _ _ _) (ev_some ?_)) fun c3 => ev_some ?_)) fun c4 => ev_some ?_) fun c2 => ev_some ?_) fun c1 => ev_some ?_
  all_goals simp_all
def voteGood (l : List Row) (view height : Int) (blk : List Int) (who : Int) (tag : List Int) : Bool :=
  (signVote l view height blk who).2.2.2.2.2.2.2 && voteSame (signVote l view height blk who).1 (signVote l view height blk who).2.1 (signVote l view height blk who).2.2.2.1 (signVote l view height blk who).2.2.2.2.1 (signVote l view height blk who).2.2.2.2.2.2.1 view height blk who tag
theorem impl_VoteGood.ev (z : Bool) (l : List Row) (h : Rows l) (view height : Int) (y : Bool) (blk : List Int) (hb : blk.length ≤ 1048576) (hbb : bytesOk blk) (who : Int) (x : Bool) (tag : List Int) : Ev (fun k => impl_VoteGood.f k z (l.map Row.t) view height y blk who x tag) (voteGood l view height blk who tag) := by
  refine ev_step ?_
  simp only [impl_VoteGood.f, impl_VoteGood.b]
  unfold voteGood
  refine Ev.bind (impl_SignVote.ev z l h view height y blk hb hbb who) (ev_ite (fun c => Ev.bind (impl_VoteSame.ev _ _ _ _ _ _ _ _ _ _ _ _ _ _) (ev_some ?_)) fun c => ev_some ?_)
  · rw [c]; rfl
  · have : (signVote l view height blk who).2.2.2.2.2.2.2 = false := by simpa using c
    rw [this]; rfl
end Go.Proofs.YtbpcnodmgphinaaG
namespace Go.Proofs.YtbpcnodmgphinaaG
open Go Go.Proofs.YtbpcnodmgphinaaRv Go.RowKit
set_option linter.unusedVariables false
set_option linter.unusedSimpArgs false

structure By where
  z : Bool
  l : List Int
instance : Inhabited By := ⟨⟨false, []⟩⟩
def By.t (b : By) : T := .nums 5 .u8 b.z b.l
theorem by_at {l : List By} {i : Nat} (h : i < l.length) : (l.map By.t).getD i .bad = (l[i]).t := by simp [List.getD_eq_getElem?_getD, h]
theorem By.c0z (b : By) : (b.t.cells.getD 0 .bad).isNil = b.z := rfl
theorem By.c0 (b : By) : (b.t.cells.getD 0 .bad).toNums = b.l := rfl
theorem getD_in {α : Type} [Inhabited α] {l : List α} {n : Nat} (h : n < l.length) : l.getD n default = l[n] := by simp [h]
structure QcV where
  v : Int
  h : Int
  bz : Bool
  blk : List Int
  mz : Bool
  bits : List Int
  tz : Bool
  tags : List By
structure Head where
  v : Int
  h : Int
  p : Int
  az : Bool
  par : List Int
  rz : Bool
  root : List Int
  q : QcV
instance : Inhabited Head := ⟨⟨0, 0, 0, false, [], false, [], ⟨0, 0, false, [], false, [], false, []⟩⟩⟩
def Head.t (x : Head) : T := .agg [.int .i64 x.v, .int .i64 x.h, .int .i64 x.p, .nums 5 .u8 x.az x.par, .nums 5 .u8 x.rz x.root, .int .i64 x.q.v, .int .i64 x.q.h, .nums 5 .u8 x.q.bz x.q.blk, .nums 5 .u8 x.q.mz x.q.bits, .sl 22 x.q.tz (x.q.tags.map By.t)]
section
variable (x : Head)
theorem Head.c0 : (x.t.cells.getD 0 .bad).toInt = x.v := rfl
theorem Head.c1 : (x.t.cells.getD 1 .bad).toInt = x.h := rfl
theorem Head.c2 : (x.t.cells.getD 2 .bad).toInt = x.p := rfl
theorem Head.c3 : (x.t.cells.getD 3 .bad).toNums = x.par := rfl
theorem Head.c4 : (x.t.cells.getD 4 .bad).toNums = x.root := rfl
end
end Go.Proofs.YtbpcnodmgphinaaG
namespace Go.Proofs.YtbpcnodmgphinaaG
open Go Go.Proofs.YtbpcnodmgphinaaRv Go.RowKit
set_option linter.unusedVariables false
set_option linter.unusedSimpArgs false

structure Light where
  l0 : Int
  l1 : Int
  l2 : Int
  l3 : Int
  l4 : Int
  rz : Bool
  rows : List Row
  skip : Int
  bz : Bool
  buf : List Int
  cz : Bool
  chain : List Head
end Go.Proofs.YtbpcnodmgphinaaG
namespace Go.Proofs.YtbpcnodmgphinaaG
open Go Go.Proofs.YtbpcnodmgphinaaRv Go.RowKit
set_option linter.unusedVariables false
set_option linter.unusedSimpArgs false


end Go.Proofs.YtbpcnodmgphinaaG
namespace Go.Proofs.YtbpcnodmgphinaaG
open Go Go.Proofs.YtbpcnodmgphinaaRv Go.RowKit
set_option linter.unusedVariables false
set_option linter.unusedSimpArgs false

structure Sl (α : Type) where
  z : Bool
  l : List α
def goodI (n : Int) : Prop := (Lit.int .i64 n).wf = true
def By.good (b : By) : Prop := b.l.length ≤ 9223372036854775807 ∧ ∀ n ∈ b.l, (Lit.int .u8 n).wf = true
def GoodL {α : Type} (g : α → Prop) (l : List α) : Prop := l.length ≤ 9223372036854775807 ∧ ∀ x ∈ l, g x
def Row.good (r : Row) : Prop := goodI r.f0 ∧ By.good ⟨r.z, r.f1⟩
def Tab.good (x : Sl Row) : Prop := GoodL Row.good x.l
def QcV.good (q : QcV) : Prop := goodI q.v ∧ goodI q.h ∧ By.good ⟨q.bz, q.blk⟩ ∧ By.good ⟨q.mz, q.bits⟩ ∧ GoodL By.good q.tags
def Head.good (h : Head) : Prop := goodI h.v ∧ goodI h.h ∧ goodI h.p ∧ By.good ⟨h.az, h.par⟩ ∧ By.good ⟨h.rz, h.root⟩ ∧ h.q.good
structure Vt where
  v : Int
  h : Int
  bz : Bool
  blk : List Int
  who : Int
  tz : Bool
  tag : List Int
instance : Inhabited Vt := ⟨⟨0, 0, false, [], 0, false, []⟩⟩
def Vt.t (x : Vt) : T := .agg [.int .i64 x.v, .int .i64 x.h, .nums 5 .u8 x.bz x.blk, .int .i64 x.who, .nums 5 .u8 x.tz x.tag]
theorem Vt.c0 (x : Vt) : (x.t.cells.getD 0 .bad).toInt = x.v := rfl
theorem Vt.c1 (x : Vt) : (x.t.cells.getD 1 .bad).toInt = x.h := rfl
theorem Vt.c2 (x : Vt) : (x.t.cells.getD 2 .bad).toNums = x.blk := rfl
theorem Vt.c3 (x : Vt) : (x.t.cells.getD 3 .bad).toInt = x.who := rfl
theorem Vt.c4 (x : Vt) : (x.t.cells.getD 4 .bad).toNums = x.tag := rfl
def Vt.good (x : Vt) : Prop := goodI x.v ∧ goodI x.h ∧ By.good ⟨x.bz, x.blk⟩ ∧ goodI x.who ∧ By.good ⟨x.tz, x.tag⟩
structure En where
  who : Int
  high : Int
  tz : Bool
  tag : List Int
instance : Inhabited En := ⟨⟨0, 0, false, []⟩⟩
def En.t (x : En) : T := .agg [.int .i64 x.who, .int .i64 x.high, .nums 5 .u8 x.tz x.tag]
theorem En.c0 (x : En) : (x.t.cells.getD 0 .bad).toInt = x.who := rfl
theorem En.c1 (x : En) : (x.t.cells.getD 1 .bad).toInt = x.high := rfl
theorem En.c2 (x : En) : (x.t.cells.getD 2 .bad).toNums = x.tag := rfl
def En.good (x : En) : Prop := goodI x.who ∧ goodI x.high ∧ By.good ⟨x.tz, x.tag⟩
structure Lm where
  l0 : Int
  l1 : Int
  l2 : Int
  l3 : Int
  l4 : Int
def Lm.good (x : Lm) : Prop := goodI x.l0 ∧ goodI x.l1 ∧ goodI x.l2 ∧ goodI x.l3 ∧ goodI x.l4
structure TcV where
  v : Int
  ez : Bool
  ents : List En
def TcV.good (x : TcV) : Prop := goodI x.v ∧ GoodL En.good x.ents
structure Ps where
  skip : Int
  z : Bool
  buf : List Int
def Ps.good (x : Ps) : Prop := goodI x.skip ∧ By.good ⟨x.z, x.buf⟩
def Light.good (x : Light) : Prop := Lm.good ⟨x.l0, x.l1, x.l2, x.l3, x.l4⟩ ∧ GoodL Row.good x.rows ∧ Ps.good ⟨x.skip, x.bz, x.buf⟩ ∧ GoodL Head.good x.chain
structure Fo where
  l0 : Int
  l1 : Int
  l2 : Int
  l3 : Int
  l4 : Int
  hz : Bool
  heads : List Head
def Fo.good (x : Fo) : Prop := Lm.good ⟨x.l0, x.l1, x.l2, x.l3, x.l4⟩ ∧ GoodL Head.good x.heads
structure Pf where
  hz : Bool
  heads : List Head
  q : QcV
def Pf.good (x : Pf) : Prop := GoodL Head.good x.heads ∧ x.q.good
end Go.Proofs.YtbpcnodmgphinaaG
namespace Go.Proofs.YtbpcnodmgphinaaG
open Go Go.Proofs.YtbpcnodmgphinaaRv Go.RowKit
set_option linter.unusedVariables false
set_option linter.unusedSimpArgs false

theorem and255 (x : Int) : 0 ≤ Go.bits .and .i64 x 255 ∧ Go.bits .and .i64 x 255 ≤ 255 := by
  have h : (BitVec.ofInt 64 x &&& BitVec.ofInt 64 255).toNat ≤ 255 := by
    rw [BitVec.toNat_and]
    exact Nat.le_trans Nat.and_le_right (by decide)
  have e : Go.bits .and .i64 x 255 = ((BitVec.ofInt 64 x &&& BitVec.ofInt 64 255).toNat : Int) := by
    show IntKind.i64.wrap ((BitVec.ofInt 64 x &&& BitVec.ofInt 64 255).toNat : Int) = _
    rw [IntKind.wrap_i64]
    omega
  rw [e]
  omega
end Go.Proofs.YtbpcnodmgphinaaG
namespace Go.Proofs.YtbpcnodmgphinaaG
open Go Go.Proofs.YtbpcnodmgphinaaRv Go.RowKit
set_option linter.unusedVariables false
set_option linter.unusedSimpArgs false

end Go.Proofs.YtbpcnodmgphinaaG
namespace Go.Proofs.YtbpcnodmgphinaaG
open Go Go.Proofs.YtbpcnodmgphinaaRv Go.RowKit
set_option linter.unusedVariables false
set_option linter.unusedSimpArgs false

def areH (l : List By) : Bool := allFrom (fun n => decide ((l.getD n default).l.length = 32)) 0 l.length
theorem impl_areHashes.ev (z : Bool) (l : List By) (h : l.length ≤ 1048576) : Ev (fun k => impl_areHashes.f k z (l.map By.t)) (areH l) := by
  refine ev_step ?_
  simp only [impl_areHashes.f, impl_areHashes.b, List.length_map]
  unfold areH
  refine ev_allp (fun k i => impl_areHashes.l0 k z (l.map By.t) (l.length : Int) i) l.length _ (fun n hn hp r hr => ?_) (fun n hn hp => ?_) ?_ l.length 0 (by omega)
  · rw [getD_in hn] at hp
    refine ev_step ?_
    simp only [impl_areHashes.l0, impl_areHashes.l0b, List.length_map, Int.toNat_natCast, by_at hn, By.c0, By.c0z, succ_nat n (by omega)]
    have hp' : l[n].l.length = 32 := by simpa using hp
    exact ev_pos (by omega) (ev_pos (by omega) (ev_pos (by omega) (ev_neg (by simp [hp']) hr)))
  · rw [getD_in hn] at hp
    refine ev_step ?_
    simp only [impl_areHashes.l0, impl_areHashes.l0b, List.length_map, Int.toNat_natCast, by_at hn, By.c0, By.c0z, succ_nat n (by omega)]
    have hp' : ¬ l[n].l.length = 32 := by simpa using hp
    exact ev_pos (by omega) (ev_pos (by omega) (ev_pos (by omega) (ev_pos (by omega) (ev_some rfl))))
  · refine ev_step ?_
    simp only [impl_areHashes.l0, impl_areHashes.l0b]
    exact ev_neg (by omega) (ev_some rfl)
theorem impl_areHashes.ev2 (y z w : Bool) (a b : List Int) : Ev (fun k => impl_areHashes.f k y [.nums 5 .u8 z a, .nums 5 .u8 w b]) (decide (a.length = 32) && decide (b.length = 32)) :=
  ev_to (impl_areHashes.ev y [⟨z, a⟩, ⟨w, b⟩] (by simp)) (by simp [areH, allFrom])
end Go.Proofs.YtbpcnodmgphinaaG
namespace Go.Proofs.YtbpcnodmgphinaaG
open Go Go.Proofs.YtbpcnodmgphinaaRv Go.RowKit
set_option linter.unusedVariables false
set_option linter.unusedSimpArgs false

end Go.Proofs.YtbpcnodmgphinaaG
namespace Go.Proofs.YtbpcnodmgphinaaG
open Go Go.Proofs.YtbpcnodmgphinaaRv Go.RowKit
set_option linter.unusedVariables false
set_option linter.unusedSimpArgs false

end Go.Proofs.YtbpcnodmgphinaaG
namespace Go.Proofs.YtbpcnodmgphinaaG
open Go Go.Proofs.YtbpcnodmgphinaaRv Go.RowKit
set_option linter.unusedVariables false
set_option linter.unusedSimpArgs false

structure QcK (q : QcV) : Prop where
  v : isNum q.v = true
  h : isNum q.h = true
  blk : q.blk.length = 32
  bits : q.bits.length ≤ 2
  cnt : q.tags.length ≤ 16
  tags : ∀ b ∈ q.tags, b.l.length = 32
structure HeadK (x : Head) : Prop where
  v : isNum x.v = true
  h : isNum x.h = true
  p : isNum x.p = true
  par : x.par.length = 32
  root : x.root.length = 32
  q : QcK x.q
end Go.Proofs.YtbpcnodmgphinaaG
namespace Go.Proofs.YtbpcnodmgphinaaG
open Go Go.Proofs.YtbpcnodmgphinaaRv Go.RowKit
set_option linter.unusedVariables false
set_option linter.unusedSectionVars false
set_option linter.unusedSimpArgs false

section
variable (z : Bool) (l : List Int) (h : l.length ≤ 1048576)
include h
theorem spec_l01New.ex0 : ∀ (d n : Nat) (s : Int), n + d = l.length → ∃ s', Ev (fun k => spec_l01New.l0 k z l s (n : Int)) (z, l, 0, s')
  | 0, n, s, hn => by
    refine ⟨s, ev_step ?_⟩
    simp only [spec_l01New.l0, spec_l01New.l0b]
    exact ev_neg (by omega) (ev_some rfl)
  | d + 1, n, s, hn => by
    by_cases c : n < 4000
    · obtain ⟨s', e⟩ := spec_l01New.ex0 d (n + 1) (Go.bits .and .i64 (wrap64 ((wrap64 ((wrap64 (s * 37)) + (wrap64 (rdI l (n : Int))))) + 7)) 1073741823) (by omega)
      refine ⟨s', ev_step ?_⟩
      simp only [spec_l01New.l0, spec_l01New.l0b]
      refine ev_pos (by omega) (ev_pos (by omega) (ev_pos (by omega) (ev_pos (by omega) ?_)))
      rw [w64s (by omega)]
      exact e
    · refine ⟨s, ev_step ?_⟩
      simp only [spec_l01New.l0, spec_l01New.l0b]
      exact ev_pos (by omega) (ev_neg (by omega) (ev_some rfl))
theorem spec_l01New.ex : ∃ s, Ev (fun k => spec_l01New.f k z l) (z, l, 0, s) := by
  obtain ⟨s, e⟩ := spec_l01New.ex0 z l h l.length 0 (wrap64 ((1611 : Int) + (l.length : Int))) (by omega)
  refine ⟨s, ev_step ?_⟩
  simp only [spec_l01New.f, spec_l01New.b]
  exact e
theorem spec_l01Byte.ex (p s : Int) (hp : 0 ≤ p) : ∃ b p' s', Ev (fun k => spec_l01Byte.f k z l p s) (b, z, l, p', s') ∧ 0 ≤ b ∧ b ≤ 255 ∧ 0 ≤ p' := by
  by_cases c : p < (l.length : Int)
  · refine ⟨Go.bits .and .i64 (wrap64 (Go.bits .and .i64 (Go.bits .xor .i64 (shrI .i64 (wrap64 ((wrap64 (s * 6364136223846793005)) + 1442695040888963407)) 33) (shrI .i64 (wrap64 ((wrap64 (s * 6364136223846793005)) + 1442695040888963407)) 45)) 255 + wrap64 (rdI l p))) 255, wrap64 (p + 1), wrap64 ((wrap64 (s * 6364136223846793005)) + 1442695040888963407), ev_step ?_, (and255 _).1, (and255 _).2, by rw [w64 (by omega) (by omega)]; omega⟩
    simp only [spec_l01Byte.f, spec_l01Byte.b]
    exact ev_pos c (ev_pos hp (ev_pos c (ev_some rfl)))
  · refine ⟨Go.bits .and .i64 (Go.bits .xor .i64 (shrI .i64 (wrap64 ((wrap64 (s * 6364136223846793005)) + 1442695040888963407)) 33) (shrI .i64 (wrap64 ((wrap64 (s * 6364136223846793005)) + 1442695040888963407)) 45)) 255, p, wrap64 ((wrap64 (s * 6364136223846793005)) + 1442695040888963407), ev_step ?_, (and255 _).1, (and255 _).2, hp⟩
    simp only [spec_l01Byte.f, spec_l01Byte.b]
    exact ev_neg c (ev_some rfl)
theorem spec_l01Below.ex (p s n : Int) (hp : 0 ≤ p) : ∃ b p' s', Ev (fun k => spec_l01Below.f k z l p s n) (b, z, l, p', s') ∧ 0 ≤ p' ∧ (0 < n → 0 ≤ b ∧ b < n) ∧ (n ≤ 0 → b = 0) := by
  by_cases c : n ≤ 0
  · refine ⟨0, p, s, ev_step ?_, hp, by omega, fun _ => rfl⟩
    simp only [spec_l01Below.f, spec_l01Below.b]
    exact ev_pos c (ev_some rfl)
  · by_cases d : n ≤ 256
    · obtain ⟨b, p1, s1, e, b0, b1, hp1⟩ := spec_l01Byte.ex z l h p s hp
      refine ⟨Int.tmod b n, p1, s1, ev_step ?_, hp1, fun hn => ⟨Int.tmod_nonneg _ b0, Int.tmod_lt_of_pos _ hn⟩, by omega⟩
      simp only [spec_l01Below.f, spec_l01Below.b]
      exact ev_neg c (ev_pos d (Ev.bind e (by simp only [Bool.not_eq_true', decide_eq_false_iff_not]; rw [show decide (n = 0) = false from decide_eq_false (by omega)]; exact ev_some rfl)))
    · obtain ⟨b1, p1, s1, e1, b10, b11, hp1⟩ := spec_l01Byte.ex z l h p s hp
      obtain ⟨b2, p2, s2, e2, b20, b21, hp2⟩ := spec_l01Byte.ex z l h p1 s1 hp1
      obtain ⟨b3, p3, s3, e3, b30, b31, hp3⟩ := spec_l01Byte.ex z l h p2 s2 hp2
      obtain ⟨b4, p4, s4, e4, b40, b41, hp4⟩ := spec_l01Byte.ex z l h p3 s3 hp3
      refine ⟨Int.tmod (b1 * 16777216 + b2 * 65536 + b3 * 256 + b4) n, p4, s4, ev_step ?_, hp4, fun hn => ⟨Int.tmod_nonneg _ (by omega), Int.tmod_lt_of_pos _ hn⟩, by omega⟩
      simp only [spec_l01Below.f, spec_l01Below.b]
      refine ev_neg c (ev_neg d (Ev.bind e1 (Ev.bind e2 (Ev.bind e3 (Ev.bind e4 ?_)))))
      simp only
      rw [show decide (n = 0) = false from decide_eq_false (by omega), w64 (n := b1 * 16777216) (by omega) (by omega), w64 (n := b2 * 65536) (by omega) (by omega), w64 (n := b3 * 256) (by omega) (by omega), w64 (n := b1 * 16777216 + b2 * 65536) (by omega) (by omega), w64 (n := b1 * 16777216 + b2 * 65536 + b3 * 256) (by omega) (by omega), w64 (by omega) (by omega)]
      exact ev_some rfl
theorem spec_l01Pick.ex (p s : Int) (y : Bool) (xs : List Int) (hp : 0 ≤ p) (hx : 0 < xs.length) : ∃ b p' s', Ev (fun k => spec_l01Pick.f k z l p s y xs) (b, z, l, p', s') ∧ 0 ≤ p' ∧ b ∈ xs := by
  obtain ⟨b, p1, s1, e, hp1, hb, _⟩ := spec_l01Below.ex z l h p s (xs.length : Int) hp
  obtain ⟨b0, b1⟩ := hb (by omega)
  refine ⟨rdI xs b, p1, s1, ev_step ?_, hp1, ?_⟩
  · simp only [spec_l01Pick.f, spec_l01Pick.b]
    exact Ev.bind e (ev_pos b0 (ev_pos b1 (ev_some rfl)))
  · obtain ⟨m, rfl⟩ := Int.eq_ofNat_of_zero_le b0
    rw [rdI_nat (by omega)]
    exact List.getElem_mem _
theorem spec_l10Draw.ex (p s : Int) (hp : 0 ≤ p) : ∃ n tx txs fr hd p' s', Ev (fun k => spec_l10Draw.f k z l p s) (n, tx, txs, fr, hd, z, l, p', s') ∧ 0 ≤ p' ∧ (1 ≤ n ∧ n ≤ 10) ∧ (0 ≤ tx ∧ tx ≤ 40) ∧ (0 ≤ txs ∧ txs ≤ 8) ∧ (60 ≤ fr ∧ fr ≤ 4000) ∧ (3 ≤ hd ∧ hd ≤ 5) := by
  obtain ⟨n, p1, s1, e1, hp1, h1⟩ := spec_l01Pick.ex z l h p s false ([1, 3, 4, 4, 7, 9, 10] : List Int) hp (by decide)
  obtain ⟨tx, p2, s2, e2, hp2, h2⟩ := spec_l01Pick.ex z l h p1 s1 false ([0, 4, 8, 40] : List Int) hp1 (by decide)
  obtain ⟨txs, p3, s3, e3, hp3, h3⟩ := spec_l01Pick.ex z l h p2 s2 false ([0, 3, 8] : List Int) hp2 (by decide)
  obtain ⟨fr, p4, s4, e4, hp4, h4⟩ := spec_l01Pick.ex z l h p3 s3 false ([4000, 4000, 300, 60] : List Int) hp3 (by decide)
  obtain ⟨hd, p5, s5, e5, hp5, h5, _⟩ := spec_l01Below.ex z l h p4 s4 3 hp4
  have h5 := h5 (by decide)
  simp only [List.mem_cons, List.not_mem_nil, or_false] at h1 h2 h3 h4
  refine ⟨n, tx, txs, fr, (wrap64 ((3 : Int) + hd)), p5, s5, ev_step ?_, hp5, by omega, by omega, by omega, by omega, by rw [w64 (by omega) (by omega)]; omega⟩
  simp only [spec_l10Draw.f, spec_l10Draw.b]
  exact Ev.bind e1 (Ev.bind e2 (Ev.bind e3 (Ev.bind e4 (Ev.bind e5 (ev_some rfl)))))
end
def rowDrawn (r : Row) : Prop := (1 ≤ r.f0 ∧ r.f0 ≤ 1099511627776) ∧ r.f1.length = 3 ∧ bytesOk r.f1
theorem spec_l21Draw.ex0 (z : Bool) (l : List Int) (h : l.length ≤ 1048576) (n : Nat) (hn : n ≤ 10) : ∀ (d i : Nat) (p s : Int) (y : Bool) (rows : List Row), i + d = n → rows.length = i → (∀ r ∈ rows, rowDrawn r) → 0 ≤ p → ∃ (y' : Bool) (rows' : List Row) (p' s' : Int), Ev (fun k => spec_l21Draw.l0 k (n : Int) (i : Int) z l p s y (rows.map Row.t)) (y', rows'.map Row.t, z, l, p', s') ∧ rows'.length = n ∧ (∀ r ∈ rows', rowDrawn r) ∧ 0 ≤ p'
  | 0, i, p, s, y, rows, hi, hr, ha, hp => by
    refine ⟨y, rows, p, s, ev_step ?_, by omega, ha, hp⟩
    simp only [spec_l21Draw.l0, spec_l21Draw.l0b]
    exact ev_neg (by omega) (ev_some rfl)
  | d + 1, i, p, s, y, rows, hi, hr, ha, hp => by
    obtain ⟨b, p1, s1, e1, hp1, h1, _⟩ := spec_l01Below.ex z l h p s 9 hp
    have h1 := h1 (by decide)
    obtain ⟨wt, p2, s2, e2, hp2, h2⟩ := spec_l01Pick.ex z l h p1 s1 false ([1, 1, 1, 2, 5, 1099511627776, wrap64 (1 + b)] : List Int) hp1 (by simp)
    obtain ⟨c, p3, s3, e3, hp3, h3, _⟩ := spec_l01Below.ex z l h p2 s2 9 hp2
    have h3 := h3 (by decide)
    have hw : 1 ≤ wt ∧ wt ≤ 1099511627776 := by
      rw [w64 (by omega) (by omega)] at h2
      simp only [List.mem_cons, List.not_mem_nil, or_false] at h2
      omega
    obtain ⟨y', rows', p', s', e, q1, q2, q3⟩ := spec_l21Draw.ex0 z l h n hn d (i + 1) p3 s3 false (rows ++ [⟨wt, false, [((i : Int)) % 256, c % 256, 1]⟩]) (by omega) (by simp; omega) (fun r hr' => by
      rcases List.mem_append.1 hr' with hr' | hr'
      · exact ha r hr'
      · rw [List.mem_singleton.1 hr']
        refine ⟨hw, rfl, fun x hx => ?_⟩
        simp only [List.mem_cons, List.not_mem_nil, or_false] at hx
        omega) hp3
    refine ⟨y', rows', p', s', ev_step ?_, q1, q2, q3⟩
    simp only [spec_l21Draw.l0, spec_l21Draw.l0b, List.length_map]
    refine ev_pos (by omega) (Ev.bind e1 (Ev.bind e2 (Ev.bind e3 (ev_pos (by omega) ?_))))
    rw [w64s (by omega)]
    rw [List.map_append] at e
    exact e
theorem spec_l21Draw.ex (z : Bool) (l : List Int) (h : l.length ≤ 1048576) (p s : Int) (hp : 0 ≤ p) (n : Nat) (hn : n ≤ 10) : ∃ (y : Bool) (rows : List Row) (p' s' : Int), Ev (fun k => spec_l21Draw.f k z l p s (n : Int)) (y, rows.map Row.t, z, l, p', s') ∧ rows.length = n ∧ (∀ r ∈ rows, rowDrawn r) ∧ 0 ≤ p' := by
  obtain ⟨y, rows, p', s', e, r⟩ := spec_l21Draw.ex0 z l h n hn n 0 p s true [] (by omega) rfl (by simp) hp
  refine ⟨y, rows, p', s', ev_step ?_, r⟩
  simp only [spec_l21Draw.f, spec_l21Draw.b]
  exact e
theorem drawn_ok {rows : List Row} (h : ∀ r ∈ rows, rowDrawn r) (h1 : 1 ≤ rows.length) (h2 : rows.length ≤ 10) : tabOk rows = true := tabOk_iff.2 ⟨fun r hr => ⟨(h r hr).1, by have := (h r hr).2.1; omega⟩, h1, h2⟩
theorem drawn_rows {rows : List Row} (h : ∀ r ∈ rows, rowDrawn r) (h2 : rows.length ≤ 10) : Rows rows := ⟨by omega, fun r hr => ⟨by have := (h r hr).2.1; omega, (h r hr).2.2⟩⟩
theorem spec_l23Pair.ex (z : Bool) (l : List Int) (h : l.length ≤ 1048576) (p s : Int) (hp : 0 ≤ p) : ∃ (n : Nat) (tx txs hd : Int) (y : Bool) (rows : List Row) (p' s' : Int), Ev (fun k => spec_l23Pair.f k z l p s) ((n : Int), tx, txs, 4000, hd, y, rows.map Row.t, z, l, p', s') ∧ (1 ≤ n ∧ n ≤ 5) ∧ (0 ≤ tx ∧ tx ≤ 40) ∧ (0 ≤ txs ∧ txs ≤ 8) ∧ (3 ≤ hd ∧ hd ≤ 5) ∧ rows.length = n ∧ (∀ r ∈ rows, rowDrawn r) ∧ 0 ≤ p' := by
  obtain ⟨n0, tx, txs, fr, hd, p1, s1, e1, hp1, _, h2, h3, _, h5⟩ := spec_l10Draw.ex z l h p s hp
  obtain ⟨b, p2, s2, e2, hp2, hb, _⟩ := spec_l01Below.ex z l h p1 s1 5 hp1
  have hb := hb (by decide)
  obtain ⟨m, rfl⟩ := Int.eq_ofNat_of_zero_le hb.1
  obtain ⟨y, rows, p3, s3, e3, q1, q2, q3⟩ := spec_l21Draw.ex z l h p2 s2 hp2 (m + 1) (by omega)
  refine ⟨m + 1, tx, txs, hd, y, rows, p3, s3, ev_step ?_, by omega, h2, h3, h5, q1, q2, q3⟩
  have em : wrap64 (1 + (m : Int)) = ((m + 1 : Nat) : Int) := by rw [w64 (by omega) (by omega)]; omega
  simp only [spec_l23Pair.f, spec_l23Pair.b]
  refine Ev.bind e1 (Ev.bind e2 ?_)
  simp only [em]
  exact Ev.bind e3 (ev_some rfl)
theorem spec_MakeTable.ex (z : Bool) (l : List Int) (h : l.length ≤ 1048576) : ∃ (n : Nat) (tx txs hd : Int) (y : Bool) (rows : List Row), Ev (fun k => spec_MakeTable.f k z l) ((n : Int), tx, txs, 4000, hd, y, rows.map Row.t) ∧ (1 ≤ n ∧ n ≤ 5) ∧ (0 ≤ tx ∧ tx ≤ 40) ∧ (0 ≤ txs ∧ txs ≤ 8) ∧ (3 ≤ hd ∧ hd ≤ 5) ∧ rows.length = n ∧ (∀ r ∈ rows, rowDrawn r) := by
  obtain ⟨s, e⟩ := spec_l01New.ex z l h
  obtain ⟨n, tx, txs, hd, y, rows, p', s', e', h1, h2, h3, h4, h5, h6, _⟩ := spec_l23Pair.ex z l h 0 s (by omega)
  refine ⟨n, tx, txs, hd, y, rows, ev_step ?_, h1, h2, h3, h4, h5, h6⟩
  simp only [spec_MakeTable.f, spec_MakeTable.b]
  exact Ev.bind e (Ev.bind e' (ev_some rfl))
theorem spec_MakeNum.ex (z : Bool) (l : List Int) (h : l.length ≤ 1048576) (n : Int) (hn : 1 ≤ n) : ∃ b, Ev (fun k => spec_MakeNum.f k z l n) b ∧ 0 ≤ b ∧ b < n := by
  obtain ⟨s, e⟩ := spec_l01New.ex z l h
  obtain ⟨b, p', s', e', _, h1, _⟩ := spec_l01Below.ex z l h 0 (wrap64 (s + 777)) n (by omega)
  refine ⟨b, ev_step ?_, h1 (by omega)⟩
  simp only [spec_MakeNum.f, spec_MakeNum.b]
  exact Ev.bind e (Ev.bind e' (ev_some rfl))
theorem set_ok {b : List Int} (hb : bytesOk b) (i : Nat) (x : Int) : bytesOk (b.set i (x % 256)) := fun y hy => by
  rcases List.mem_or_eq_of_mem_set hy with h | h
  · exact hb y h
  · omega
theorem z32_ok : bytesOk (List.replicate 32 0) := fun y hy => by rw [List.eq_of_mem_replicate hy]; omega
theorem spec_l11Hash.ex (z : Bool) (l : List Int) (h : l.length ≤ 1048576) (p s : Int) (hp : 0 ≤ p) : ∃ b p' s', Ev (fun k => spec_l11Hash.f k z l p s) (false, b, z, l, p', s') ∧ b.length = 32 ∧ bytesOk b ∧ 0 ≤ p' := by
  obtain ⟨b, p1, s1, e1, hp1, _⟩ := spec_l01Below.ex z l h p s 3 hp
  obtain ⟨c, p2, s2, e2, _, _, hp2⟩ := spec_l01Byte.ex z l h p1 s1 hp1
  refine ⟨(((List.replicate 32 0).set 0 (b % 256)).set 31 (c % 256)), p2, s2, ev_step ?_, by simp, set_ok (set_ok (z32_ok) _ _) _ _, hp2⟩
  simp only [spec_l11Hash.f, spec_l11Hash.b]
  exact Ev.bind e1 (ev_pos (by simp) (Ev.bind e2 (ev_pos (by simp) (ev_some rfl))))
theorem spec_MakeHash.ex (z : Bool) (l : List Int) (h : l.length ≤ 1048576) (t : Int) : ∃ b, Ev (fun k => spec_MakeHash.f k z l t) (false, b) ∧ b.length = 32 ∧ bytesOk b := by
  obtain ⟨s, e⟩ := spec_l01New.ex z l h
  obtain ⟨b, p', s', e', h1, h2, _⟩ := spec_l11Hash.ex z l h 0 (wrap64 (s + t)) (by omega)
  refine ⟨b.set 7 (t % 256), ev_step ?_, by simpa using h1, set_ok h2 _ _⟩
  simp only [spec_MakeHash.f, spec_MakeHash.b]
  exact Ev.bind e (Ev.bind e' (ev_pos (by simp only; omega) (ev_some rfl)))
end Go.Proofs.YtbpcnodmgphinaaG
namespace Go.Proofs.YtbpcnodmgphinaaG
open Go Go.Proofs.YtbpcnodmgphinaaRv Go.RowKit
set_option linter.unusedVariables false
set_option linter.unusedSimpArgs false

theorem impl_MacOk.ev (x y z : Bool) (key b tag : List Int) (h : key.length ≤ 1073741000) (hk : bytesOk key) (hb : b.length ≤ 1048576) (hbb : bytesOk b) : Ev (fun k => impl_MacOk.f k x key y b z tag) (sameB tag (mac key b)) := by
  refine ev_step ?_
  simp only [impl_MacOk.f, impl_MacOk.b]
  exact Ev.bind (impl_Mac.ev _ _ _ _ h hk hb hbb) (Ev.bind (impl_SameBytes.ev _ _ _ _) (ev_some rfl))
theorem voteV_yes {a b : Int} {h : List Int} (ha : isNum a = true) (hb : isNum b = true) (hh : h.length = 32) : (voteV a b h).1 = false := by
  unfold voteV
  rw [if_pos ⟨ha, hb, hh⟩]
theorem laws_FnSign.top (x0 : By) (g0 : x0.good) : Ev (fun k => laws_FnSign.f k x0.z x0.l) true := by
  refine ev_step ?_
  simp only [laws_FnSign.f, laws_FnSign.b]
  refine ev_ite (fun _ => ev_some rfl) (fun c => ?_)
  have hl : x0.l.length ≤ 1048576 := by omega
  obtain ⟨n, tx, txs, hd, y, rows, eT, hn, _, _, _, hr, dr⟩ := spec_MakeTable.ex x0.z x0.l hl
  obtain ⟨w, eW, w0, w1⟩ := spec_MakeNum.ex x0.z x0.l hl (n : Int) (by omega)
  obtain ⟨b, eB, b0, b1⟩ := spec_MakeHash.ex x0.z x0.l hl 1
  have T := drawn_ok dr (by omega) (by omega)
  have R := drawn_rows dr (by omega)
  obtain ⟨m, rfl⟩ := Int.eq_ofNat_of_zero_le w0
  have hm : m < rows.length := by omega
  have row := dr _ (List.getElem_mem hm)
  have r3 := row.2.1
  have vl := voteV_len 6 3 b
  have ll := leaveV_len 6 2
  have hv : (voteV 6 3 b).1 = false := voteV_yes (by decide) (by decide) b0
  have hlv : (leaveV 6 2).1 = false := by decide
  have eV : signVote rows 6 3 b (m : Int) = (6, 3, false, b, (m : Int), false, mac rows[m].f1 (voteV 6 3 b).2, true) := by
    unfold signVote
    rw [if_pos ⟨T, hv, by omega, by omega⟩]
    simp [hm]
  have eL : signLeave rows 6 2 (m : Int) = ((m : Int), 2, false, mac rows[m].f1 (leaveV 6 2).2, true) := by
    unfold signLeave
    rw [if_pos ⟨T, hlv, ⟨by omega, by omega⟩, by decide⟩]
    simp [hm]
  have V := impl_SignVote.ev y rows R 6 3 false b (by omega) b1 (m : Int)
  have L := impl_SignLeave.ev y rows R 6 2 (m : Int)
  have G := impl_VoteGood.ev y rows R 6 3 false b (by omega) b1 (m : Int) false (mac rows[m].f1 (voteV 6 3 b).2)
  have E := impl_EntryGood.ev y rows R 6 (m : Int) 2 false (mac rows[m].f1 (leaveV 6 2).2)
  have g1 : voteGood rows 6 3 b (m : Int) (mac rows[m].f1 (voteV 6 3 b).2) = true := by
    unfold voteGood
    rw [eV]
    simp [voteSame, sameB_refl]
  have g2 : entryGood rows 6 (m : Int) 2 (mac rows[m].f1 (leaveV 6 2).2) = true := by
    unfold entryGood
    rw [eL]
    simp [sameB_refl]
  rw [eV] at V
  rw [eL] at L
  rw [g1] at G
  rw [g2] at E
  have B1 := impl_VoteBytes.ev 6 3 false b (by omega)
  have B2 := impl_LeaveBytes.ev 6 2
  have M1 := impl_MacOk.ev rows[m].z (voteV 6 3 b).1 false rows[m].f1 (voteV 6 3 b).2 (mac rows[m].f1 (voteV 6 3 b).2) (by omega) row.2.2 (by omega) (voteV_nice 6 3 b1)
  have M2 := impl_MacOk.ev rows[m].z (leaveV 6 2).1 false rows[m].f1 (leaveV 6 2).2 (mac rows[m].f1 (leaveV 6 2).2) (by omega) row.2.2 (by omega) (leaveV_nice 6 2)
  rw [sameB_refl] at M1 M2
  refine Ev.bind eT (Ev.bind eW (Ev.bind eB (Ev.bind V (Ev.bind L (ev_pos rfl (ev_pos rfl (Ev.bind G (ev_pos rfl (Ev.bind E (ev_pos rfl ?_))))))))))
  simp only [Int.toNat_natCast, row_at hm, Row.c1, Row.c1z, List.length_map]
  exact ev_pos (by omega) (ev_pos (by omega) (Ev.bind B1 (Ev.bind M1 (ev_pos rfl (ev_pos (by omega) (ev_pos (by omega) (Ev.bind B2 (Ev.bind M2 (ev_pos rfl (ev_pos trivial (ev_some (by simp))))))))))))
end Go.Proofs.YtbpcnodmgphinaaG
