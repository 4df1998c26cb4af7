/- Numbers in bytes and checksums, in plain terms. No condition beside those that each lemma names. -/
import Derived.Test.YtnkkdiiheannaaaBits
namespace Go.Proofs.YtnkkdiiheannaaaR
open Go.RowKit Go.Proofs.YtnkkdiiheannaaaW.PrintWords Go.Proofs.YtnkkdiiheannaaaW.PrintLast Go.Proofs.YtnkkdiiheannaaaW.PrintMore
set_option linter.unusedVariables false

theorem bits_xor_nat (k : IntKind) (j : Nat) (hj : j ≤ k.bits) (hk : ∀ n : Int, 0 ≤ n → n < 2 ^ j → k.wrap n = n) (a b : Nat) (ha : a < 2 ^ j) (hb : b < 2 ^ j) : bits .xor k a b = ((a ^^^ b : Nat) : Int) := by
  have hp : 2 ^ j ≤ 2 ^ k.bits := Nat.pow_le_pow_right (by decide) hj
  have ha' : a % 2 ^ k.bits = a := Nat.mod_eq_of_lt (Nat.lt_of_lt_of_le ha hp)
  have hb' : b % 2 ^ k.bits = b := Nat.mod_eq_of_lt (Nat.lt_of_lt_of_le hb hp)
  simp only [bits, BitVec.ofInt_natCast, BitVec.toNat_xor, BitVec.toNat_ofNat, ha', hb']
  exact hk _ (Int.natCast_nonneg _) (by exact_mod_cast Nat.xor_lt_two_pow ha hb)
theorem wraps_i64 (j : Nat) (hj : j ≤ 63) (n : Int) (h0 : 0 ≤ n) (h1 : n < 2 ^ j) : IntKind.i64.wrap n = n := by
  have : (2 : Int) ^ j ≤ 2 ^ 63 := by exact_mod_cast Nat.pow_le_pow_right (by decide) hj
  have e : (2 : Int) ^ 63 = 9223372036854775808 := by decide
  rw [IntKind.wrap_i64]
  omega
theorem xor_i64 (j : Nat) (hj : j ≤ 63) {a b : Int} (ha : 0 ≤ a) (ha' : a < 2 ^ j) (hb : 0 ≤ b) (hb' : b < 2 ^ j) : 0 ≤ bits .xor .i64 a b ∧ bits .xor .i64 a b < 2 ^ j := by
  obtain ⟨x, rfl⟩ := Int.eq_ofNat_of_zero_le ha
  obtain ⟨y, rfl⟩ := Int.eq_ofNat_of_zero_le hb
  have hx : x < 2 ^ j := by exact_mod_cast ha'
  have hy : y < 2 ^ j := by exact_mod_cast hb'
  rw [bits_xor_nat .i64 j (by show j ≤ 64; omega) (wraps_i64 j hj) x y hx hy]
  exact ⟨by omega, by exact_mod_cast Nat.xor_lt_two_pow hx hy⟩
theorem and_i64 (j : Nat) (hj : j ≤ 63) {a b : Int} (ha : 0 ≤ a) (ha' : a < 2 ^ j) (hb : 0 ≤ b) (hb' : b < 2 ^ j) : 0 ≤ bits .and .i64 a b ∧ bits .and .i64 a b < 2 ^ j := by
  obtain ⟨x, rfl⟩ := Int.eq_ofNat_of_zero_le ha
  obtain ⟨y, rfl⟩ := Int.eq_ofNat_of_zero_le hb
  have hx : x < 2 ^ j := by exact_mod_cast ha'
  have hy : y < 2 ^ j := by exact_mod_cast hb'
  rw [(bits_nat .i64 j (by show j ≤ 64; omega) (wraps_i64 j hj) x y hx hy).1]
  exact ⟨by omega, by exact_mod_cast Nat.and_lt_two_pow _ hy⟩
theorem or_i64 (j : Nat) (hj : j ≤ 63) {a b : Int} (ha : 0 ≤ a) (ha' : a < 2 ^ j) (hb : 0 ≤ b) (hb' : b < 2 ^ j) : 0 ≤ bits .or .i64 a b ∧ bits .or .i64 a b < 2 ^ j := by
  obtain ⟨x, rfl⟩ := Int.eq_ofNat_of_zero_le ha
  obtain ⟨y, rfl⟩ := Int.eq_ofNat_of_zero_le hb
  have hx : x < 2 ^ j := by exact_mod_cast ha'
  have hy : y < 2 ^ j := by exact_mod_cast hb'
  rw [(bits_nat .i64 j (by show j ≤ 64; omega) (wraps_i64 j hj) x y hx hy).2]
  exact ⟨by omega, by exact_mod_cast Nat.or_lt_two_pow hx hy⟩
theorem and1_i64 {a : Int} (h0 : 0 ≤ a) (h1 : a < 4294967296) : bits .and .i64 a 1 = a % 2 := bits_mask .i64 32 (by decide) (wraps_i64 32 (by decide)) 1 (by decide) a h0 h1
/-- The low part and a part above it, joined. -/
theorem or_join {a x : Int} {i : Nat} (hi : 8 * i ≤ 48) (ha : 0 ≤ a) (ha' : a < 2 ^ (8 * i)) (hx : 0 ≤ x) (hx' : x < 256) : bits .or .i64 a (x * 2 ^ (8 * i)) = a + x * 2 ^ (8 * i) := by
  obtain ⟨a, rfl⟩ := Int.eq_ofNat_of_zero_le ha
  obtain ⟨x, rfl⟩ := Int.eq_ofNat_of_zero_le hx
  have ha2 : a < 2 ^ (8 * i) := by exact_mod_cast ha'
  have hx2 : x < 2 ^ 8 := by omega
  have e : ((x : Int) * 2 ^ (8 * i)) = ((x * 2 ^ (8 * i) : Nat) : Int) := by simp
  have p : (2 : Nat) ^ (8 * i) ≤ 2 ^ 48 := Nat.pow_le_pow_right (by decide) hi
  have hb : x * 2 ^ (8 * i) < 2 ^ 56 := by
    have : x * 2 ^ (8 * i) ≤ 255 * 2 ^ (8 * i) := Nat.mul_le_mul_right _ (by omega)
    omega
  rw [e, (bits_nat .i64 56 (by decide) (wraps_i64 56 (by decide)) a _ (by omega) hb).2, Nat.or_comm, Nat.mul_comm, ← Nat.two_pow_add_eq_or_of_lt ha2 x]
  simp
  omega

theorem xor32 {a b : Int} (ha : 0 ≤ a) (ha' : a < 4294967296) (hb : 0 ≤ b) (hb' : b < 4294967296) : 0 ≤ bits .xor .i64 a b ∧ bits .xor .i64 a b < 4294967296 := by
  have e : (2 : Int) ^ 32 = 4294967296 := by decide
  have := xor_i64 32 (by decide) ha (by rw [e]; exact ha') hb (by rw [e]; exact hb')
  rwa [e] at this
theorem lt32 {x : Int} (h : x < 256) : x < 2 ^ 32 := by
  have e : (2 : Int) ^ 32 = 4294967296 := by decide
  omega
theorem pow256_le {m n : Nat} (h : m ≤ n) : (256 : Int) ^ m ≤ 256 ^ n := by
  have p : (0 : Int) < 256 ^ m := Int.pow_pos (by decide)
  induction h with
  | refl => exact Int.le_refl _
  | step _ ih =>
    rw [Int.pow_succ]
    generalize (256 : Int) ^ m = q at *
    omega

/-! numbers with the least significant byte first -/
def leVal : List Int → Int
  | [] => 0
  | x :: t => x + 256 * leVal t
theorem leVal_snoc : ∀ (l : List Int) (x : Int), leVal (l ++ [x]) = leVal l + 256 ^ l.length * x
  | [], x => by simp [leVal]
  | y :: t, x => by
    rw [List.cons_append, leVal, leVal, leVal_snoc t x, List.length_cons, Int.pow_succ, Int.mul_add, ← Int.mul_assoc, Int.mul_comm (256 ^ t.length) 256]
    omega
theorem leVal_bd : ∀ (l : List Int), (∀ x ∈ l, 0 ≤ x ∧ x < 256) → 0 ≤ leVal l ∧ leVal l < 256 ^ l.length
  | [], _ => by simp [leVal]
  | y :: t, h => by
    have h0 := h y (by simp)
    have := leVal_bd t (fun x hx => h x (by simp [hx]))
    rw [leVal, List.length_cons, Int.pow_succ]
    generalize (256 : Int) ^ t.length = q at *
    omega
theorem pow256 (i : Nat) : (256 : Int) ^ i = 2 ^ (8 * i) := by rw [Int.pow_mul]; rfl

/-! checksums -/
def crcTurn (c : Int) : Int := if c % 2 = 1 then bits .xor .i64 (c / 2) 3988292384 else c / 2
def crcTurns : Nat → Int → Int
  | 0, c => c
  | m + 1, c => crcTurns m (crcTurn c)
def crcStep (c x : Int) : Int := crcTurns 8 (bits .xor .i64 c x)
def crcFold (c : Int) (l : List Int) : Int := l.foldl crcStep c
theorem crcFold_cons (c x : Int) (t : List Int) : crcFold c (x :: t) = crcFold (crcStep c x) t := List.foldl_cons ..
def crcV (b : List Int) : Int := bits .xor .i64 (crcFold (bits .xor .i64 0 4294967295) b) 4294967295
theorem crcTurn_bd {c : Int} (h0 : 0 ≤ c) (h1 : c < 4294967296) : 0 ≤ crcTurn c ∧ crcTurn c < 4294967296 := by
  unfold crcTurn
  split
  · exact xor32 (by omega) (by omega) (by decide) (by decide)
  · omega
theorem crcTurns_bd : ∀ (m : Nat) {c : Int}, 0 ≤ c → c < 4294967296 → 0 ≤ crcTurns m c ∧ crcTurns m c < 4294967296
  | 0, c, h0, h1 => ⟨h0, h1⟩
  | m + 1, c, h0, h1 => crcTurns_bd m (crcTurn_bd h0 h1).1 (crcTurn_bd h0 h1).2

/-! frames -/
/-- What stands at place i of a stream: the state, and how many bytes. -/
def frameAt (lok : Bool) (fr : Int) (s : List Int) (i : Nat) : Int × Int :=
  if lok = false ∨ s.length ≤ i ∨ rd s (i : Int) ≠ 181 ∨ (i + 1 < s.length ∧ rd s ((i + 1 : Nat) : Int) ≠ 70) then (0, 0)
  else if s.length < i + 4 then (1, 0)
  else
    if ¬(1 ≤ leVal ((s.drop (i + 2)).take 2) ∧ leVal ((s.drop (i + 2)).take 2) ≤ fr) then (0, 0)
    else if (s.length : Int) < i + 8 + leVal ((s.drop (i + 2)).take 2) then (1, 8 + leVal ((s.drop (i + 2)).take 2))
    else if leVal ((s.drop (i + 4)).take 4) = crcV ((s.drop (i + 8)).take (leVal ((s.drop (i + 2)).take 2)).toNat) then (3, 8 + leVal ((s.drop (i + 2)).take 2)) else (2, 8 + leVal ((s.drop (i + 2)).take 2))
/-- Is a scan that goes on valid? -/
def pushOk (lok : Bool) (fr sk : Int) (buf : List Int) : Bool := lok && (isNum sk && (decide (buf = []) || ((frameAt lok fr buf 0).1 == 1)))
end Go.Proofs.YtnkkdiiheannaaaR
