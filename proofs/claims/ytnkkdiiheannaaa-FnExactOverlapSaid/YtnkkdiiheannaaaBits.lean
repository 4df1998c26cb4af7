/- Signer bitmaps as lists of bytes: which bits are set, in order. No condition beside those that each lemma names. -/
import Derived.Test.YtnkkdiiheannaaaEv
import Derived.Test.YtnkkdiiheannaaaWMore
import Derived.Laws.BitsLemmas
namespace Go.Proofs.YtnkkdiiheannaaaR
open Go.RowKit Go.Proofs.YtnkkdiiheannaaaW.PrintWords Go.Proofs.YtnkkdiiheannaaaW.PrintLast Go.Proofs.YtnkkdiiheannaaaW.PrintMore
set_option linter.unusedVariables false

theorem tdiv_nat (n m : Nat) : Int.tdiv (n : Int) (m : Int) = ((n / m : Nat) : Int) := by
  rw [Int.tdiv_eq_ediv_of_nonneg (by omega)]
  exact (Int.natCast_ediv n m).symm
theorem tmod_nat (n m : Nat) : Int.tmod (n : Int) (m : Int) = ((n % m : Nat) : Int) := by
  rw [Int.tmod_eq_emod_of_nonneg (by omega)]
  exact (Int.natCast_emod n m).symm
theorem w64n {n : Nat} (h : n ≤ 9223372036854775807) : wrap64 (n : Int) = (n : Int) := w64 (by omega) (by omega)
/-- Bit i of a bitmap. -/
def bitAt (b : List Int) (i : Nat) : Bool := rd b ((i / 8 : Nat) : Int) / 2 ^ (i % 8) % 2 == 1
theorem bitAt_out {b : List Int} {i : Nat} (h : 8 * b.length ≤ i) : bitAt b i = false := by
  have : b.length ≤ i / 8 := by omega
  have e : rd b ((i / 8 : Nat) : Int) = 0 := by
    unfold rd
    rw [toNat_nat, List.getD_eq_getElem?_getD, List.getElem?_eq_none this]
    rfl
  unfold bitAt
  rw [e]
  simp
theorem rd_nice {l : List Int} (h : niceB l) (i : Int) : 0 ≤ rd l i ∧ rd l i < 256 := by
  unfold rd
  rw [List.getD_eq_getElem?_getD]
  cases e : l[i.toNat]? with
  | none => simp
  | some x => exact h.2 x (List.mem_of_getElem? e)
theorem u8_and1 {x : Int} (h0 : 0 ≤ x) (h1 : x < 256) : bits .and .u8 x 1 = x % 2 := bits_mask .u8 8 (by decide) wraps_u8 1 (by decide) x h0 h1
theorem div_pow_bd {x : Int} (h0 : 0 ≤ x) (h1 : x < 256) (m : Nat) : 0 ≤ x / 2 ^ m ∧ x / 2 ^ m < 256 := by
  have hp : (0 : Int) < 2 ^ m := Int.pow_pos (by decide)
  refine ⟨Int.ediv_nonneg h0 (Int.le_of_lt hp), ?_⟩
  have := Int.ediv_le_self (2 ^ m) h0
  omega
/-- The set bits among m from i on. -/
def bitsFrom (b : List Int) : Nat → Nat → List Nat
  | _, 0 => []
  | i, m + 1 => if bitAt b i = true then i :: bitsFrom b (i + 1) m else bitsFrom b (i + 1) m
/-- The signers of a bitmap, in order. -/
def bitsList (b : List Int) : List Int := (bitsFrom b 0 (8 * b.length)).map fun (n : Nat) => (n : Int)
theorem bitsFrom_bd (b : List Int) : ∀ (m i : Nat) (x : Nat), x ∈ bitsFrom b i m → i ≤ x ∧ x < i + m
  | 0, i, x, h => by simp [bitsFrom] at h
  | m + 1, i, x, h => by
    unfold bitsFrom at h
    split at h
    · rcases List.mem_cons.1 h with rfl | h
      · omega
      · have := bitsFrom_bd b m (i + 1) x h
        omega
    · have := bitsFrom_bd b m (i + 1) x h
      omega
theorem bitsFrom_mem (b : List Int) : ∀ (m i : Nat) (x : Nat), x ∈ bitsFrom b i m ↔ (i ≤ x ∧ x < i + m) ∧ bitAt b x = true
  | 0, i, x => by simp [bitsFrom]; omega
  | m + 1, i, x => by
    have ih := bitsFrom_mem b m (i + 1) x
    unfold bitsFrom
    split
    · rename_i h
      rw [List.mem_cons, ih]
      constructor
      · rintro (rfl | ⟨h1, h2⟩)
        · exact ⟨by omega, h⟩
        · exact ⟨by omega, h2⟩
      · rintro ⟨h1, h2⟩
        by_cases e : x = i
        · exact Or.inl e
        · exact Or.inr ⟨by omega, h2⟩
    · rename_i h
      rw [ih]
      constructor
      · rintro ⟨h1, h2⟩
        exact ⟨by omega, h2⟩
      · rintro ⟨h1, h2⟩
        have : x ≠ i := by rintro rfl; exact h h2
        exact ⟨by omega, h2⟩
theorem bitsFrom_length (b : List Int) : ∀ (m i : Nat), (bitsFrom b i m).length ≤ m
  | 0, i => by simp [bitsFrom]
  | m + 1, i => by
    have := bitsFrom_length b m (i + 1)
    unfold bitsFrom
    split
    · simp only [List.length_cons]; omega
    · omega
theorem bitsList_length (b : List Int) : (bitsList b).length ≤ 8 * b.length := by
  unfold bitsList
  rw [List.length_map]
  exact bitsFrom_length b _ _
theorem bitsList_bd {b : List Int} {x : Int} (h : x ∈ bitsList b) : ∃ n : Nat, x = n ∧ n < 8 * b.length ∧ bitAt b n = true := by
  unfold bitsList at h
  obtain ⟨n, hn, rfl⟩ := List.mem_map.1 h
  have := (bitsFrom_mem b _ _ n).1 hn
  exact ⟨n, rfl, by omega, this.2⟩
theorem mem_bitsList {b : List Int} (n : Nat) : (n : Int) ∈ bitsList b ↔ n < 8 * b.length ∧ bitAt b n = true := by
  unfold bitsList
  rw [List.mem_map]
  constructor
  · rintro ⟨m, hm, e⟩
    have := (bitsFrom_mem b _ _ m).1 hm
    have e' : m = n := by omega
    subst e'
    exact ⟨by omega, this.2⟩
  · rintro ⟨h1, h2⟩
    exact ⟨n, (bitsFrom_mem b _ _ n).2 ⟨by omega, h2⟩, rfl⟩
theorem niceI_bitsList {b : List Int} (h : 8 * b.length ≤ 1048576) : niceI (bitsList b) := by
  refine ⟨by have := bitsList_length b; omega, fun x hx => ?_⟩
  obtain ⟨n, rfl, hn, _⟩ := bitsList_bd hx
  unfold i64r
  omega
def bitsSize (n : Int) : Int := if n < 1 then 0 else (n - 1) / 8 + 1
/-- A bitmap of n signers. -/
def bitsOk (b : List Int) (n : Int) : Bool := decide (1 ≤ n ∧ n ≤ 10) && (decide ((b.length : Int) = bitsSize n) && (bitsList b).all fun i => decide (i < n))
theorem bitsOk_iff {b : List Int} {n : Int} : bitsOk b n = true ↔ (1 ≤ n ∧ n ≤ 10) ∧ (b.length : Int) = bitsSize n ∧ ∀ i ∈ bitsList b, i < n := by
  simp [bitsOk, and_assoc]
theorem bitsOk_len {b : List Int} {n : Int} (h : bitsOk b n = true) : b.length ≤ 2 := by
  obtain ⟨h1, h2, _⟩ := bitsOk_iff.1 h
  unfold bitsSize at h2
  split at h2 <;> omega
theorem bitsOk_bit {b : List Int} {n : Int} (h : bitsOk b n = true) {i : Nat} (hi : n ≤ i) : bitAt b i = false := by
  obtain ⟨h1, h2, h3⟩ := bitsOk_iff.1 h
  by_cases c : i < 8 * b.length
  · cases e : bitAt b i with
    | false => rfl
    | true =>
      have := h3 i ((mem_bitsList i).2 ⟨c, e⟩)
      omega
  · exact bitAt_out (by omega)
/-- Ascending, so the last one tells of all. -/
theorem bitsFrom_last (b : List Int) : ∀ (m i : Nat) (h : bitsFrom b i m ≠ []), ∀ x ∈ bitsFrom b i m, x ≤ (bitsFrom b i m).getLast h
  | 0, i, h, x, hx => by simp [bitsFrom] at hx
  | m + 1, i, h, x, hx => by
    by_cases c : bitAt b i = true
    · have e : bitsFrom b i (m + 1) = i :: bitsFrom b (i + 1) m := by rw [bitsFrom, if_pos c]
      by_cases n : bitsFrom b (i + 1) m = []
      · have : bitsFrom b i (m + 1) = [i] := by rw [e, n]
        simp only [this, List.mem_singleton] at hx
        simp only [this, List.getLast_singleton]
        omega
      · have l : (bitsFrom b i (m + 1)).getLast h = (bitsFrom b (i + 1) m).getLast n := by simp only [e, List.getLast_cons n]
        rw [l]
        rw [e] at hx
        rcases List.mem_cons.1 hx with rfl | hx
        · have := bitsFrom_bd b m (x + 1) _ (List.getLast_mem n)
          omega
        · exact bitsFrom_last b m (i + 1) n x hx
    · have e : bitsFrom b i (m + 1) = bitsFrom b (i + 1) m := by rw [bitsFrom, if_neg c]
      have n : bitsFrom b (i + 1) m ≠ [] := by rw [← e]; exact h
      have l : (bitsFrom b i (m + 1)).getLast h = (bitsFrom b (i + 1) m).getLast n := by simp only [e]
      rw [l]
      rw [e] at hx
      exact bitsFrom_last b m (i + 1) n x hx
theorem bitsList_last (b : List Int) (h : bitsList b ≠ []) : ∀ x ∈ bitsList b, x ≤ (bitsList b).getLast h := by
  intro x hx
  have h' : bitsFrom b 0 (8 * b.length) ≠ [] := by intro e; apply h; simp [bitsList, e]
  have l : (bitsList b).getLast h = (((bitsFrom b 0 (8 * b.length)).getLast h' : Nat) : Int) := by simp only [bitsList, List.getLast_map]
  unfold bitsList at hx
  obtain ⟨n, hn, rfl⟩ := List.mem_map.1 hx
  have := bitsFrom_last b _ _ h' n hn
  rw [l]
  omega
theorem all_lt_last (b : List Int) (n : Int) : ((bitsList b).all fun i => decide (i < n)) = (if h : bitsList b = [] then true else decide ((bitsList b).getLast h < n)) := by
  split
  · rename_i h
    rw [h]
    rfl
  · rename_i h
    rw [Bool.eq_iff_iff, List.all_eq_true]
    simp only [decide_eq_true_eq]
    exact ⟨fun g => g _ (List.getLast_mem h), fun g x hx => by have := bitsList_last b h x hx; omega⟩
/-! two bitmaps, bit by bit -/
theorem bits_u8_bd (op : BinOp) (x y : Int) : 0 ≤ bits op .u8 x y ∧ bits op .u8 x y < 256 := by
  unfold bits
  rw [IntKind.wrap_u8]
  omega
def bitsZip (op : BinOp) (a b : List Int) : List Int := List.zipWith (fun x y => bits op .u8 x y) a b
def bitsBoth (op : BinOp) (a b : List Int) : List Int := if a.length = b.length then bitsZip op a b else []
theorem bitsZip_length (op : BinOp) (a b : List Int) : (bitsZip op a b).length = min a.length b.length := by simp [bitsZip]
theorem bitsZip_take {op : BinOp} {a b : List Int} (hl : a.length = b.length) {n : Nat} (h : n < a.length) : (bitsZip op a b).take (n + 1) = (bitsZip op a b).take n ++ [bits op .u8 (rd a (n : Int)) (rd b (n : Int))] := by
  have hb : n < b.length := by omega
  rw [List.take_succ_eq_append_getElem (by rw [bitsZip_length]; omega), rd_nat h, rd_nat hb]
  simp [bitsZip]
theorem bitsBoth_nice (op : BinOp) {a b : List Int} (ha : niceB a) : niceB (bitsBoth op a b) := by
  unfold bitsBoth
  split
  · refine ⟨by rw [bitsZip_length]; have := ha.1; omega, fun x hx => ?_⟩
    unfold bitsZip at hx
    obtain ⟨i, hi, rfl⟩ := List.getElem_of_mem hx
    simp only [List.getElem_zipWith]
    exact bits_u8_bd _ _ _
  · exact niceB_nil

end Go.Proofs.YtnkkdiiheannaaaR
