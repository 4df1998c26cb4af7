/- Signer bitmaps as lists of bytes: which bits are set, in order. No condition beside those that each lemma names. -/
import Derived.Test.YtnkkdiiheannaaaEv
import Derived.Test.YtnkkdiiheannaaaWMore
import Derived.Laws.BitsLemmas
import Derived.Lib.Bytes
namespace Go.Proofs.YtnkkdiiheannaaaR
open Go.RowKit Go.Proofs.YtnkkdiiheannaaaW.PrintWords Go.Proofs.YtnkkdiiheannaaaW.PrintLast Go.Proofs.YtnkkdiiheannaaaW.PrintMore
set_option linter.unusedVariables false

theorem tdiv_nat (n m : Nat) : Int.tdiv (n : Int) (m : Int) = ((n / m : Nat) : Int) := by
  rw [Int.tdiv_eq_ediv_of_nonneg (by omega)]
  exact (Int.natCast_ediv n m).symm
theorem tmod_nat (n m : Nat) : Int.tmod (n : Int) (m : Int) = ((n % m : Nat) : Int) := by
  rw [Int.tmod_eq_emod_of_nonneg (by omega)]
  exact (Int.natCast_emod n m).symm
theorem w64n {n : Nat} (h : n ≤ 9223372036854775807) : wrap64 (n : Int) = (n : Int) := w64 (by omega) (by omega)
/-- Bit i of a bitmap. -/
def bitAt (b : List Int) (i : Nat) : Bool := rd b ((i / 8 : Nat) : Int) / 2 ^ (i % 8) % 2 == 1
theorem bitAt_out {b : List Int} {i : Nat} (h : 8 * b.length ≤ i) : bitAt b i = false := by
  have : b.length ≤ i / 8 := by omega
  have e : rd b ((i / 8 : Nat) : Int) = 0 := by
    unfold rd
    rw [toNat_nat, List.getD_eq_getElem?_getD, List.getElem?_eq_none this]
    rfl
  unfold bitAt
  rw [e]
  simp
theorem rd_nice {l : List Int} (h : niceB l) (i : Int) : 0 ≤ rd l i ∧ rd l i < 256 := by
  unfold rd
  rw [List.getD_eq_getElem?_getD]
  cases e : l[i.toNat]? with
  | none => simp
  | some x => exact h.2 x (List.mem_of_getElem? e)
theorem u8_and1 {x : Int} (h0 : 0 ≤ x) (h1 : x < 256) : bits .and .u8 x 1 = x % 2 := bits_mask .u8 8 (by decide) wraps_u8 1 (by decide) x h0 h1
theorem div_pow_bd {x : Int} (h0 : 0 ≤ x) (h1 : x < 256) (m : Nat) : 0 ≤ x / 2 ^ m ∧ x / 2 ^ m < 256 := by
  have hp : (0 : Int) < 2 ^ m := Int.pow_pos (by decide)
  refine ⟨Int.ediv_nonneg h0 (Int.le_of_lt hp), ?_⟩
  have := Int.ediv_le_self (2 ^ m) h0
  omega
/-- The set bits among m from i on. -/
def bitsFrom (b : List Int) : Nat → Nat → List Nat
  | _, 0 => []
  | i, m + 1 => if bitAt b i = true then i :: bitsFrom b (i + 1) m else bitsFrom b (i + 1) m
/-- The signers of a bitmap, in order. -/
def bitsList (b : List Int) : List Int := (bitsFrom b 0 (8 * b.length)).map fun (n : Nat) => (n : Int)
theorem bitsFrom_bd (b : List Int) : ∀ (m i : Nat) (x : Nat), x ∈ bitsFrom b i m → i ≤ x ∧ x < i + m
  | 0, i, x, h => by simp [bitsFrom] at h
  | m + 1, i, x, h => by
    unfold bitsFrom at h
    split at h
    · rcases List.mem_cons.1 h with rfl | h
      · omega
      · have := bitsFrom_bd b m (i + 1) x h
        omega
    · have := bitsFrom_bd b m (i + 1) x h
      omega
theorem bitsFrom_mem (b : List Int) : ∀ (m i : Nat) (x : Nat), x ∈ bitsFrom b i m ↔ (i ≤ x ∧ x < i + m) ∧ bitAt b x = true
  | 0, i, x => by simp [bitsFrom]; omega
  | m + 1, i, x => by
    have ih := bitsFrom_mem b m (i + 1) x
    unfold bitsFrom
    split
    · rename_i h
      rw [List.mem_cons, ih]
      constructor
      · rintro (rfl | ⟨h1, h2⟩)
        · exact ⟨by omega, h⟩
        · exact ⟨by omega, h2⟩
      · rintro ⟨h1, h2⟩
        by_cases e : x = i
        · exact Or.inl e
        · exact Or.inr ⟨by omega, h2⟩
    · rename_i h
      rw [ih]
      constructor
      · rintro ⟨h1, h2⟩
        exact ⟨by omega, h2⟩
      · rintro ⟨h1, h2⟩
        have : x ≠ i := by rintro rfl; exact h h2
        exact ⟨by omega, h2⟩
theorem bitsFrom_length (b : List Int) : ∀ (m i : Nat), (bitsFrom b i m).length ≤ m
  | 0, i => by simp [bitsFrom]
  | m + 1, i => by
    have := bitsFrom_length b m (i + 1)
    unfold bitsFrom
    split
    · simp only [List.length_cons]; omega
    · omega
theorem bitsList_length (b : List Int) : (bitsList b).length ≤ 8 * b.length := by
  unfold bitsList
  rw [List.length_map]
  exact bitsFrom_length b _ _
theorem bitsList_bd {b : List Int} {x : Int} (h : x ∈ bitsList b) : ∃ n : Nat, x = n ∧ n < 8 * b.length ∧ bitAt b n = true := by
  unfold bitsList at h
  obtain ⟨n, hn, rfl⟩ := List.mem_map.1 h
  have := (bitsFrom_mem b _ _ n).1 hn
  exact ⟨n, rfl, by omega, this.2⟩
theorem mem_bitsList {b : List Int} (n : Nat) : (n : Int) ∈ bitsList b ↔ n < 8 * b.length ∧ bitAt b n = true := by
  unfold bitsList
  rw [List.mem_map]
  constructor
  · rintro ⟨m, hm, e⟩
    have := (bitsFrom_mem b _ _ m).1 hm
    have e' : m = n := by omega
    subst e'
    exact ⟨by omega, this.2⟩
  · rintro ⟨h1, h2⟩
    exact ⟨n, (bitsFrom_mem b _ _ n).2 ⟨by omega, h2⟩, rfl⟩
theorem niceI_bitsList {b : List Int} (h : 8 * b.length ≤ 1048576) : niceI (bitsList b) := by
  refine ⟨by have := bitsList_length b; omega, fun x hx => ?_⟩
  obtain ⟨n, rfl, hn, _⟩ := bitsList_bd hx
  unfold i64r
  omega
def bitsSize (n : Int) : Int := if n < 1 then 0 else (n - 1) / 8 + 1
/-- A bitmap of n signers. -/
def bitsOk (b : List Int) (n : Int) : Bool := decide (1 ≤ n ∧ n ≤ 10) && (decide ((b.length : Int) = bitsSize n) && (bitsList b).all fun i => decide (i < n))
theorem bitsOk_iff {b : List Int} {n : Int} : bitsOk b n = true ↔ (1 ≤ n ∧ n ≤ 10) ∧ (b.length : Int) = bitsSize n ∧ ∀ i ∈ bitsList b, i < n := by
  simp [bitsOk, and_assoc]
theorem bitsOk_len {b : List Int} {n : Int} (h : bitsOk b n = true) : b.length ≤ 2 := by
  obtain ⟨h1, h2, _⟩ := bitsOk_iff.1 h
  unfold bitsSize at h2
  split at h2 <;> omega
theorem bitsOk_bit {b : List Int} {n : Int} (h : bitsOk b n = true) {i : Nat} (hi : n ≤ i) : bitAt b i = false := by
  obtain ⟨h1, h2, h3⟩ := bitsOk_iff.1 h
  by_cases c : i < 8 * b.length
  · cases e : bitAt b i with
    | false => rfl
    | true =>
      have := h3 i ((mem_bitsList i).2 ⟨c, e⟩)
      omega
  · exact bitAt_out (by omega)
/-- Ascending, so the last one tells of all. -/
theorem bitsFrom_last (b : List Int) : ∀ (m i : Nat) (h : bitsFrom b i m ≠ []), ∀ x ∈ bitsFrom b i m, x ≤ (bitsFrom b i m).getLast h
  | 0, i, h, x, hx => by simp [bitsFrom] at hx
  | m + 1, i, h, x, hx => by
    by_cases c : bitAt b i = true
    · have e : bitsFrom b i (m + 1) = i :: bitsFrom b (i + 1) m := by rw [bitsFrom, if_pos c]
      by_cases n : bitsFrom b (i + 1) m = []
      · have : bitsFrom b i (m + 1) = [i] := by rw [e, n]
        simp only [this, List.mem_singleton] at hx
        simp only [this, List.getLast_singleton]
        omega
      · have l : (bitsFrom b i (m + 1)).getLast h = (bitsFrom b (i + 1) m).getLast n := by simp only [e, List.getLast_cons n]
        rw [l]
        rw [e] at hx
        rcases List.mem_cons.1 hx with rfl | hx
        · have := bitsFrom_bd b m (x + 1) _ (List.getLast_mem n)
          omega
        · exact bitsFrom_last b m (i + 1) n x hx
    · have e : bitsFrom b i (m + 1) = bitsFrom b (i + 1) m := by rw [bitsFrom, if_neg c]
      have n : bitsFrom b (i + 1) m ≠ [] := by rw [← e]; exact h
      have l : (bitsFrom b i (m + 1)).getLast h = (bitsFrom b (i + 1) m).getLast n := by simp only [e]
      rw [l]
      rw [e] at hx
      exact bitsFrom_last b m (i + 1) n x hx
theorem bitsList_last (b : List Int) (h : bitsList b ≠ []) : ∀ x ∈ bitsList b, x ≤ (bitsList b).getLast h := by
  intro x hx
  have h' : bitsFrom b 0 (8 * b.length) ≠ [] := by intro e; apply h; simp [bitsList, e]
  have l : (bitsList b).getLast h = (((bitsFrom b 0 (8 * b.length)).getLast h' : Nat) : Int) := by simp only [bitsList, List.getLast_map]
  unfold bitsList at hx
  obtain ⟨n, hn, rfl⟩ := List.mem_map.1 hx
  have := bitsFrom_last b _ _ h' n hn
  rw [l]
  omega
theorem all_lt_last (b : List Int) (n : Int) : ((bitsList b).all fun i => decide (i < n)) = (if h : bitsList b = [] then true else decide ((bitsList b).getLast h < n)) := by
  split
  · rename_i h
    rw [h]
    rfl
  · rename_i h
    rw [Bool.eq_iff_iff, List.all_eq_true]
    simp only [decide_eq_true_eq]
    exact ⟨fun g => g _ (List.getLast_mem h), fun g x hx => by have := bitsList_last b h x hx; omega⟩
/-! two bitmaps, bit by bit -/
theorem bits_u8_bd (op : BinOp) (x y : Int) : 0 ≤ bits op .u8 x y ∧ bits op .u8 x y < 256 := by
  unfold bits
  rw [IntKind.wrap_u8]
  omega
def bitsZip (op : BinOp) (a b : List Int) : List Int := List.zipWith (fun x y => bits op .u8 x y) a b
def bitsBoth (op : BinOp) (a b : List Int) : List Int := if a.length = b.length then bitsZip op a b else []
theorem bitsZip_length (op : BinOp) (a b : List Int) : (bitsZip op a b).length = min a.length b.length := by simp [bitsZip]
theorem bitsZip_take {op : BinOp} {a b : List Int} (hl : a.length = b.length) {n : Nat} (h : n < a.length) : (bitsZip op a b).take (n + 1) = (bitsZip op a b).take n ++ [bits op .u8 (rd a (n : Int)) (rd b (n : Int))] := by
  have hb : n < b.length := by omega
  rw [List.take_succ_eq_append_getElem (by rw [bitsZip_length]; omega), rd_nat h, rd_nat hb]
  simp [bitsZip]
theorem bitsBoth_nice (op : BinOp) {a b : List Int} (ha : niceB a) : niceB (bitsBoth op a b) := by
  unfold bitsBoth
  split
  · refine ⟨by rw [bitsZip_length]; have := ha.1; omega, fun x hx => ?_⟩
    unfold bitsZip at hx
    obtain ⟨i, hi, rfl⟩ := List.getElem_of_mem hx
    simp only [List.getElem_zipWith]
    exact bits_u8_bd _ _ _
  · exact niceB_nil

/-! single bits of two bytes -/
theorem ofInt_nice {x : Int} (h0 : 0 ≤ x) (h1 : x < 256) : (BitVec.ofInt 8 x).toNat = x.toNat := by
  rw [BitVec.toNat_ofInt]
  have : x % ((2 ^ 8 : Nat) : Int) = x := Int.emod_eq_of_lt h0 (by omega)
  rw [this]
def bitOp : BinOp → Bool → Bool → Bool
  | .and, p, q => p && q
  | .or, p, q => p || q
  | .xor, p, q => p ^^ q
  | _, p, q => p && !q
theorem bits_test {op : BinOp} {x y : Int} (hx : 0 ≤ x ∧ x < 256) (hy : 0 ≤ y ∧ y < 256) {m : Nat} (hm : m < 8) : (bits op .u8 x y).toNat.testBit m = bitOp op (x.toNat.testBit m) (y.toNat.testBit m) := by
  have e : ∀ v : BitVec 8, (IntKind.u8.wrap (v.toNat : Int)).toNat = v.toNat := by
    intro v
    have := v.isLt
    rw [IntKind.wrap_u8]
    omega
  have ex : x.toNat.testBit m = (BitVec.ofInt 8 x).getLsbD m := by rw [← ofInt_nice hx.1 hx.2]; rfl
  have ey : y.toNat.testBit m = (BitVec.ofInt 8 y).getLsbD m := by rw [← ofInt_nice hy.1 hy.2]; rfl
  rw [ex, ey]
  unfold bits
  show ((IntKind.u8.wrap ((match op with | .and => BitVec.ofInt 8 x &&& BitVec.ofInt 8 y | .or => BitVec.ofInt 8 x ||| BitVec.ofInt 8 y | .xor => BitVec.ofInt 8 x ^^^ BitVec.ofInt 8 y | _ => BitVec.ofInt 8 x &&& ~~~(BitVec.ofInt 8 y)).toNat : Int)).toNat).testBit m = _
  rw [e, BitVec.testBit_toNat]
  cases op <;> simp [bitOp, hm]
theorem bitAt_test {b : List Int} (h : niceB b) (i : Nat) : bitAt b i = (rd b ((i / 8 : Nat) : Int)).toNat.testBit (i % 8) := by
  have q := rd_nice h ((i / 8 : Nat) : Int)
  unfold bitAt
  rw [Nat.testBit_eq_decide_div_mod_eq]
  obtain ⟨n, hn⟩ := Int.eq_ofNat_of_zero_le q.1
  rw [hn]
  have : ((n : Int) / 2 ^ (i % 8)) % 2 = ((n / 2 ^ (i % 8) % 2 : Nat) : Int) := by
    rw [Int.natCast_emod, Int.natCast_ediv, Int.natCast_pow]
    rfl
  rw [this, toNat_nat]
  by_cases c : n / 2 ^ (i % 8) % 2 = 1
  · rw [c]; rfl
  · rw [decide_eq_false c]
    have : n / 2 ^ (i % 8) % 2 = 0 := by omega
    rw [this]; rfl
theorem bitsZip_bit {op : BinOp} {a b : List Int} (hl : a.length = b.length) (ha : niceB a) (hb : niceB b) {i : Nat} (hi : i < 8 * a.length) : bitAt (bitsZip op a b) i = bitOp op (bitAt a i) (bitAt b i) := by
  have n : niceB (bitsZip op a b) := by
    have := bitsBoth_nice op (b := b) ha
    unfold bitsBoth at this
    rwa [if_pos hl] at this
  have h1 : i / 8 < a.length := by omega
  rw [bitAt_test n, bitAt_test ha, bitAt_test hb, ← bits_test (op := op) (rd_nice ha _) (rd_nice hb _) (by omega)]
  rw [rd_nat h1, rd_nat (by omega : i / 8 < b.length), rd_nat (by rw [bitsZip_length]; omega)]
  simp [bitsZip]
theorem shl1 {m : Nat} (h : m < 8) : shl .u8 1 (m : Int) = 2 ^ m := by
  match m, h with
  | 0, _ => rfl
  | 1, _ => rfl
  | 2, _ => rfl
  | 3, _ => rfl
  | 4, _ => rfl
  | 5, _ => rfl
  | 6, _ => rfl
  | 7, _ => rfl
theorem pow_test {m j : Nat} (h : m < 8) : ((2 : Int) ^ m).toNat.testBit j = decide (j = m) := by
  have : ((2 : Int) ^ m).toNat = 2 ^ m := by
    have : (2 : Int) ^ m = ((2 ^ m : Nat) : Int) := by rw [Int.natCast_pow]; rfl
    rw [this, toNat_nat]
  rw [this, Nat.testBit_two_pow]
  by_cases c : m = j
  · simp [c]
  · rw [decide_eq_false c, decide_eq_false (fun h => c h.symm)]
theorem pow_bd {m : Nat} (h : m < 8) : (0 : Int) ≤ 2 ^ m ∧ (2 : Int) ^ m < 256 := by
  match m, h with
  | 0, _ => decide
  | 1, _ => decide
  | 2, _ => decide
  | 3, _ => decide
  | 4, _ => decide
  | 5, _ => decide
  | 6, _ => decide
  | 7, _ => decide
/-- One bit of a bitmap set to something. -/
def bitSet (op : BinOp) (b : List Int) (i : Nat) : List Int := b.set (i / 8) (bits op .u8 (rd b ((i / 8 : Nat) : Int)) (2 ^ (i % 8)))
theorem bitSet_nice {op : BinOp} {b : List Int} (h : niceB b) (i : Nat) : niceB (bitSet op b i) := by
  unfold bitSet
  refine ⟨by rw [List.length_set]; exact h.1, fun x hx => ?_⟩
  rcases List.mem_or_eq_of_mem_set hx with hx | rfl
  · exact h.2 x hx
  · exact bits_u8_bd _ _ _
theorem bitSet_length (op : BinOp) (b : List Int) (i : Nat) : (bitSet op b i).length = b.length := by simp [bitSet]
theorem bitSet_bit {op : BinOp} {b : List Int} (h : niceB b) {i : Nat} (hi : i < 8 * b.length) (hop : ∀ p, bitOp op p false = p) (j : Nat) : bitAt (bitSet op b i) j = if j = i then bitOp op (bitAt b j) true else bitAt b j := by
  have hk : i / 8 < b.length := by omega
  rw [bitAt_test (bitSet_nice h i), bitAt_test h]
  by_cases c : j / 8 = i / 8
  · have e : rd (bitSet op b i) ((j / 8 : Nat) : Int) = bits op .u8 (rd b ((i / 8 : Nat) : Int)) (2 ^ (i % 8)) := by
      rw [c, rd_nat (by rw [bitSet_length]; exact hk)]
      simp [bitSet]
    rw [e, bits_test (rd_nice h _) (pow_bd (by omega)) (by omega), pow_test (by omega), c]
    by_cases d : j = i
    · subst d; simp
    · rw [if_neg d, decide_eq_false (by omega), hop]
  · have e : rd (bitSet op b i) ((j / 8 : Nat) : Int) = rd b ((j / 8 : Nat) : Int) := by
      unfold rd bitSet
      rw [List.getD_eq_getElem?_getD, List.getD_eq_getElem?_getD, toNat_nat, List.getElem?_set_ne (fun x => c x.symm)]
    rw [e, if_neg (by rintro rfl; exact c rfl)]

/-! what the reference's draws rest on -/
theorem and255 (x : Int) : 0 ≤ bits .and .i64 x 255 ∧ bits .and .i64 x 255 ≤ 255 := by
  have h : (BitVec.ofInt 64 x &&& BitVec.ofInt 64 255).toNat ≤ 255 := by
    rw [BitVec.toNat_and]
    exact Nat.le_trans Nat.and_le_right (by decide)
  have e : bits .and .i64 x 255 = ((BitVec.ofInt 64 x &&& BitVec.ofInt 64 255).toNat : Int) := by
    show IntKind.i64.wrap ((BitVec.ofInt 64 x &&& BitVec.ofInt 64 255).toNat : Int) = _
    rw [IntKind.wrap_i64]
    omega
  rw [e]
  omega
theorem bitAt_zero (m j : Nat) : bitAt (List.replicate m 0) j = false := by
  have e : rd (List.replicate m 0) ((j / 8 : Nat) : Int) = 0 := by
    unfold rd
    rw [toNat_nat, List.getD_eq_getElem?_getD, List.getElem?_replicate]
    split <;> rfl
  unfold bitAt
  rw [e]
  simp
theorem bitsOk_of {b : List Int} {n : Nat} (h1 : 1 ≤ n) (h2 : n ≤ 10) (hl : (b.length : Int) = bitsSize (n : Int)) (h : ∀ j, bitAt b j = true → j < n) : bitsOk b (n : Int) = true := by
  refine bitsOk_iff.2 ⟨by omega, hl, fun i hi => ?_⟩
  obtain ⟨m, rfl, _, hm⟩ := bitsList_bd hi
  have := h m hm
  omega
theorem bitsOk_lt {b : List Int} {n : Nat} (h : bitsOk b (n : Int) = true) {j : Nat} (hj : bitAt b j = true) : j < n := by
  by_cases c : j < n
  · exact c
  · rw [bitsOk_bit h (by omega)] at hj
    cases hj
theorem bitsBoth_bit {op : BinOp} {a b : List Int} (hl : a.length = b.length) (ha : niceB a) (hb : niceB b) (h0 : bitOp op false false = false) (j : Nat) : bitAt (bitsBoth op a b) j = bitOp op (bitAt a j) (bitAt b j) := by
  unfold bitsBoth
  rw [if_pos hl]
  by_cases c : j < 8 * a.length
  · exact bitsZip_bit hl ha hb c
  · rw [bitAt_out (by rw [bitsZip_length]; omega), bitAt_out (b := a) (by omega), bitAt_out (b := b) (by omega), h0]
theorem bitsBoth_length {op : BinOp} {a b : List Int} (hl : a.length = b.length) : (bitsBoth op a b).length = a.length := by
  unfold bitsBoth
  rw [if_pos hl, bitsZip_length]
  omega
theorem bitsOk_size {a b : List Int} {n : Int} (ha : bitsOk a n = true) (hb : bitsOk b n = true) : a.length = b.length := by
  have h1 := (bitsOk_iff.1 ha).2.1
  have h2 := (bitsOk_iff.1 hb).2.1
  omega
theorem bitsBoth_ok {op : BinOp} {a b : List Int} {n : Nat} (oa : bitsOk a (n : Int) = true) (ob : bitsOk b (n : Int) = true) (ha : niceB a) (hb : niceB b) (h0 : bitOp op false false = false) : bitsOk (bitsBoth op a b) (n : Int) = true := by
  have hl := bitsOk_size oa ob
  obtain ⟨h1, h2, _⟩ := bitsOk_iff.1 oa
  refine bitsOk_of (by omega) (by omega) (by rw [bitsBoth_length hl]; exact h2) (fun j hj => ?_)
  rw [bitsBoth_bit hl ha hb h0] at hj
  cases ea : bitAt a j with
  | true => exact bitsOk_lt oa ea
  | false =>
    cases eb : bitAt b j with
    | true => exact bitsOk_lt ob eb
    | false => rw [ea, eb, h0] at hj; cases hj

theorem sameB_eq {a b : List Int} (ha : niceB a) (hb : niceB b) (h : sameB a b = true) : a = b := by
  unfold sameB at h
  rw [Lib.strOfNums_toList, Lib.strOfNums_toList] at h
  have h := beq_iff_eq.1 h
  unfold Lib.bytesOf at h
  apply List.ext_getElem
  · simpa using congrArg List.length h
  · intro i h1 h2
    have e := congrArg (fun l => l[i]?) h
    simp only [List.getElem?_map, List.getElem?_eq_getElem h1, List.getElem?_eq_getElem h2, Option.map_some, Option.some.injEq] at e
    have p := ha.2 _ (List.getElem_mem h1)
    have q := hb.2 _ (List.getElem_mem h2)
    have e := congrArg UInt8.toNat e
    rw [UInt8.toNat_ofNat', UInt8.toNat_ofNat'] at e
    omega

/-! bitmaps of lists of signers -/
theorem sorted_ext : ∀ {a b : List Nat}, a.Pairwise (· < ·) → b.Pairwise (· < ·) → (∀ x, x ∈ a ↔ x ∈ b) → a = b
  | [], [], _, _, _ => rfl
  | [], y :: b, _, _, h => by have := (h y).2 (by simp); simp at this
  | x :: a, [], _, _, h => by have := (h x).1 (by simp); simp at this
  | x :: a, y :: b, ha, hb, h => by
    rw [List.pairwise_cons] at ha hb
    have e : x = y := by
      rcases List.mem_cons.1 ((h x).1 (by simp)) with e | e
      · exact e
      · rcases List.mem_cons.1 ((h y).2 (by simp)) with e' | e'
        · exact e'.symm
        · have h1 := hb.1 x e
          have h2 := ha.1 y e'
          omega
    subst e
    congr 1
    refine sorted_ext ha.2 hb.2 (fun z => ⟨fun hz => ?_, fun hz => ?_⟩)
    · have h1 := ha.1 z hz
      rcases List.mem_cons.1 ((h z).1 (by simp [hz])) with e | e
      · omega
      · exact e
    · have h1 := hb.1 z hz
      rcases List.mem_cons.1 ((h z).2 (by simp [hz])) with e | e
      · omega
      · exact e
theorem bitsFrom_sorted (b : List Int) : ∀ (m i : Nat), (bitsFrom b i m).Pairwise (· < ·)
  | 0, i => List.Pairwise.nil
  | m + 1, i => by
    unfold bitsFrom
    split
    · rw [List.pairwise_cons]
      exact ⟨fun x hx => by have := bitsFrom_bd b m (i + 1) x hx; omega, bitsFrom_sorted b m (i + 1)⟩
    · exact bitsFrom_sorted b m (i + 1)
def setAll (b : List Int) (own : List Nat) : List Int := own.foldl (fun b i => bitSet .or b i) b
theorem setAll_spec : ∀ (own : List Nat) (b : List Int), niceB b → (∀ i ∈ own, i < 8 * b.length) → niceB (setAll b own) ∧ (setAll b own).length = b.length ∧ ∀ j, bitAt (setAll b own) j = (bitAt b j || decide (j ∈ own))
  | [], b, hb, _ => ⟨hb, rfl, fun j => by simp [setAll]⟩
  | i :: t, b, hb, h => by
    have hi := h i (by simp)
    obtain ⟨h1, h2, h3⟩ := setAll_spec t (bitSet .or b i) (bitSet_nice hb i) (fun x hx => by rw [bitSet_length]; exact h x (by simp [hx]))
    refine ⟨h1, by rw [← bitSet_length .or b i]; exact h2, fun j => ?_⟩
    have e : setAll b (i :: t) = setAll (bitSet .or b i) t := rfl
    rw [e, h3, bitSet_bit hb hi (by intro p; simp [bitOp])]
    by_cases c : j = i
    · subst c; simp [bitOp]
    · simp [c]
def bitsOf (n : Nat) (own : List Nat) : List Int := setAll (List.replicate (bitsSize (n : Int)).toNat 0) own
theorem bitsSize_bd {n : Nat} (h1 : 1 ≤ n) (h2 : n ≤ 10) : 1 ≤ bitsSize (n : Int) ∧ bitsSize (n : Int) ≤ 2 ∧ (n : Int) ≤ 8 * bitsSize (n : Int) := by
  unfold bitsSize
  rw [if_neg (by omega)]
  omega
theorem zeros_nice (m : Nat) (h : m ≤ 1048576) : niceB (List.replicate m 0) := ⟨by rw [List.length_replicate]; exact h, fun x hx => by rw [List.eq_of_mem_replicate hx]; omega⟩
theorem bitsOf_spec {n : Nat} (h1 : 1 ≤ n) (h2 : n ≤ 10) {own : List Nat} (h : ∀ i ∈ own, i < n) : niceB (bitsOf n own) ∧ ((bitsOf n own).length : Int) = bitsSize (n : Int) ∧ bitsOk (bitsOf n own) (n : Int) = true ∧ ∀ j, bitAt (bitsOf n own) j = decide (j ∈ own) := by
  have z := bitsSize_bd h1 h2
  obtain ⟨q1, q2, q3⟩ := setAll_spec own (List.replicate (bitsSize (n : Int)).toNat 0) (zeros_nice _ (by omega)) (fun i hi => by have := h i hi; rw [List.length_replicate]; omega)
  rw [List.length_replicate] at q2
  have q4 : ∀ j, bitAt (bitsOf n own) j = decide (j ∈ own) := fun j => by
    show bitAt (setAll _ own) j = _
    rw [q3, bitAt_zero, Bool.false_or]
  refine ⟨q1, by unfold bitsOf; omega, bitsOk_of h1 h2 (by unfold bitsOf; omega) (fun j hj => ?_), q4⟩
  rw [q4] at hj
  exact h j (of_decide_eq_true hj)
theorem bitsFrom_of {n : Nat} (h1 : 1 ≤ n) (h2 : n ≤ 10) {own : List Nat} (h : ∀ i ∈ own, i < n) (hs : own.Pairwise (· < ·)) : bitsFrom (bitsOf n own) 0 (8 * (bitsOf n own).length) = own := by
  have z := bitsSize_bd h1 h2
  obtain ⟨_, q2, _, q4⟩ := bitsOf_spec h1 h2 h
  refine sorted_ext (bitsFrom_sorted _ _ _) hs (fun x => ?_)
  rw [bitsFrom_mem, q4]
  constructor
  · rintro ⟨_, e⟩
    exact of_decide_eq_true e
  · intro hx
    have := h x hx
    exact ⟨⟨by omega, by omega⟩, decide_eq_true hx⟩
/-- How many bits are set. -/
def bitCount (b : List Int) : Nat := (bitsFrom b 0 (8 * b.length)).length
def pop8 (n : Nat) : Nat := ((List.range 8).filter fun j => n.testBit j).length
theorem bitsFrom_count (b : List Int) : ∀ (m i : Nat), (bitsFrom b i m).length = ((List.range m).filter fun j => bitAt b (i + j)).length
  | 0, i => rfl
  | m + 1, i => by
    have ih := bitsFrom_count b m (i + 1)
    have e : ((List.range m).map (fun j => j + 1)).filter (fun j => bitAt b (i + j)) = ((List.range m).filter fun j => bitAt b (i + 1 + j)).map (fun j => j + 1) := by
      rw [List.filter_map]
      congr 1
      apply List.filter_congr
      intro x _
      show bitAt b (i + (x + 1)) = _
      congr 1
      omega
    rw [List.range_succ_eq_map]
    unfold bitsFrom
    show _ = (List.filter _ (0 :: (List.range m).map (fun j => j + 1))).length
    rw [List.filter_cons, e, Nat.add_zero]
    cases c : bitAt b i <;> simp [ih]
theorem bitsFrom_split (b : List Int) : ∀ (m i d : Nat), bitsFrom b i (m + d) = bitsFrom b i m ++ bitsFrom b (i + m) d
  | 0, i, d => by rw [Nat.zero_add]; rfl
  | m + 1, i, d => by
    have ih := bitsFrom_split b m (i + 1) d
    rw [show m + 1 + d = (m + d) + 1 by omega, show i + (m + 1) = i + 1 + m by omega]
    have e1 : bitsFrom b i ((m + d) + 1) = if bitAt b i = true then i :: bitsFrom b (i + 1) (m + d) else bitsFrom b (i + 1) (m + d) := rfl
    have e2 : bitsFrom b i (m + 1) = if bitAt b i = true then i :: bitsFrom b (i + 1) m else bitsFrom b (i + 1) m := rfl
    rw [e1, e2, ih]
    cases bitAt b i <;> simp
theorem pop_byte {b : List Int} (h : niceB b) {i : Nat} (hi : i < b.length) : (bitsFrom b (8 * i) 8).length = pop8 (b[i]).toNat := by
  rw [bitsFrom_count]
  unfold pop8
  congr 1
  apply List.filter_congr
  intro j hj
  have hj := List.mem_range.1 hj
  rw [bitAt_test h, show (8 * i + j) / 8 = i by omega, show (8 * i + j) % 8 = j by omega, rd_nat hi]

end Go.Proofs.YtnkkdiiheannaaaR
