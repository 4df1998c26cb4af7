/- What the printed forms answer, over numbers and lists alone. Each lemma names its conditions. -/
import Derived.Test.YtgmloaobmddmaaaGFnExactLightSamec
namespace Go.Proofs.YtgmloaobmddmaaaG
open Go Go.Proofs.YtgmloaobmddmaaaRv Go.RowKit
set_option linter.unusedVariables false
set_option linter.unusedSimpArgs false

/-! numbers in bounds -/
/-! numbers as bytes -/
/-- What a number behind bytes gives. -/
def putV (b : List Int) (n : Int) : Bool × List Int × Bool := if isNum n = true then (false, b ++ vint 8 n, true) else (true, [], false)
/-- Numbers behind some bytes; nothing where one is no number. -/
def numsV (acc : List Int) (ns : List Int) : Bool × List Int := if ∀ n ∈ ns, isNum n = true then (false, acc ++ ns.flatMap (vint 8)) else (true, [])
def leaveV (a b : Int) : Bool × List Int := if isNum a = true ∧ isNum b = true then (false, 76 :: (vint 8 a ++ vint 8 b)) else (true, [])
theorem leaveV_len (a b : Int) : (leaveV a b).2.length ≤ 19 ∧ ((leaveV a b).1 = decide ((leaveV a b).2 = [])) := by
  have h1 := vint_length 8 a
  have h2 := vint_length 8 b
  unfold leaveV
  split
  · simp; omega
  · simp
theorem leaveV_nice (a b : Int) : ∀ x ∈ (leaveV a b).2, 0 ≤ x ∧ x < 256 := by
  unfold leaveV
  split
  · rename_i h
    intro x hx
    simp only [List.mem_cons, List.mem_append] at hx
    rcases hx with rfl | hx | hx
    · omega
    · exact vint_nice h.1 x hx
    · exact vint_nice h.2 x hx
  · simp

/-! rows -/
structure Row where
  f0 : Int
  z : Bool
  f1 : List Int
instance : Inhabited Row := ⟨⟨0, false, []⟩⟩
def Row.t (r : Row) : T := .agg [.int .i64 r.f0, .nums 5 .u8 r.z r.f1]
theorem row_at {l : List Row} {i : Nat} (h : i < l.length) : (l.map Row.t).getD i .bad = (l[i]).t := by simp [List.getD_eq_getElem?_getD, h]
theorem Row.c0 (r : Row) : (r.t.cells.getD 0 .bad).toInt = r.f0 := rfl
theorem Row.c1z (r : Row) : (r.t.cells.getD 1 .bad).isNil = r.z := rfl
theorem Row.c1 (r : Row) : (r.t.cells.getD 1 .bad).toNums = r.f1 := rfl
/-- Rows whose bytes are few. -/
def rowsOk (l : List Row) : Prop := l.length ≤ 1048576 ∧ ∀ r ∈ l, r.f1.length ≤ 1048576
def rowOk (r : Row) : Bool := decide (1 ≤ r.f0 ∧ r.f0 ≤ 1099511627776) && decide (1 ≤ r.f1.length ∧ r.f1.length ≤ 64)
def tabOk (l : List Row) : Bool := l.all rowOk && decide (1 ≤ l.length ∧ l.length ≤ 10)
theorem tabOk_iff {l : List Row} : tabOk l = true ↔ (∀ r ∈ l, (1 ≤ r.f0 ∧ r.f0 ≤ 1099511627776) ∧ 1 ≤ r.f1.length ∧ r.f1.length ≤ 64) ∧ 1 ≤ l.length ∧ l.length ≤ 10 := by
  simp [tabOk, rowOk]
theorem impl_SameBytes.ev (y z : Bool) (a b : List Int) : Ev (fun k => impl_SameBytes.f k y a z b) (sameB a b) := by
  refine ev_step ?_
  simp only [impl_SameBytes.f, impl_SameBytes.b]
  exact ev_some rfl
theorem spec_SameBytes.ev (y z : Bool) (a b : List Int) : Ev (fun k => spec_SameBytes.f k y a z b) (sameB a b) := by
  refine ev_step ?_
  simp only [spec_SameBytes.f, spec_SameBytes.b]
  exact ev_some rfl
theorem sameB_comm (a b : List Int) : sameB a b = sameB b a := by simp [sameB, eq_comm]
end Go.Proofs.YtgmloaobmddmaaaG
namespace Go.Proofs.YtgmloaobmddmaaaG
open Go Go.Proofs.YtgmloaobmddmaaaRv Go.RowKit
set_option linter.unusedVariables false
set_option linter.unusedSimpArgs false

/-! words -/
def isW (x : Int) : Prop := 0 ≤ x ∧ x ≤ 4294967295
def turn (x n : Int) : Int := Go.bits .and .i64 (Go.bits .or .i64 (shrI .i64 x n) (shlI .i64 x (wrap64 ((32 : Int) - n)))) 4294967295
theorem wraps_i64 (n : Int) (h₀ : 0 ≤ n) (h₁ : n < 2 ^ 63) : IntKind.i64.wrap n = n := by rw [IntKind.wrap_i64]; omega
theorem and_mask (y : Int) : isW (Go.bits .and .i64 y 4294967295) := by
  have h : ∀ n : Nat, n ≤ 4294967295 → isW (IntKind.i64.wrap (n : Int)) := fun n hn => by
    rw [wraps_i64 _ (by omega) (by omega)]
    unfold isW
    omega
  simp only [Go.bits]
  refine h _ ?_
  rw [BitVec.toNat_and]
  refine Nat.le_trans Nat.and_le_right ?_
  decide
theorem turn_W (x n : Int) : isW (turn x n) := and_mask _
theorem bits_w {a b : Nat} (ha : a < 2 ^ 32) (hb : b < 2 ^ 32) : Go.bits .and .i64 (a : Int) b = ((a &&& b : Nat) : Int) ∧ Go.bits .or .i64 (a : Int) b = ((a ||| b : Nat) : Int) ∧ Go.bits .xor .i64 (a : Int) b = ((a ^^^ b : Nat) : Int) := by
  obtain ⟨h1, h2⟩ := bits_nat .i64 63 (by decide) wraps_i64 a b (by omega) (by omega)
  refine ⟨h1, h2, ?_⟩
  have ha' : a % 2 ^ 64 = a := Nat.mod_eq_of_lt (by omega)
  have hb' : b % 2 ^ 64 = b := Nat.mod_eq_of_lt (by omega)
  have hx : a ^^^ b < 2 ^ 32 := Nat.xor_lt_two_pow ha hb
  simp only [Go.bits, BitVec.ofInt_natCast, BitVec.toNat_xor, BitVec.toNat_ofNat]
  show IntKind.i64.wrap (((a % 2 ^ 64) ^^^ (b % 2 ^ 64) : Nat) : Int) = _
  rw [ha', hb']
  exact wraps_i64 _ (by omega) (by omega)
theorem W_nat {x : Int} (h : isW x) : ∃ n : Nat, x = (n : Int) ∧ n < 2 ^ 32 := by
  obtain ⟨n, rfl⟩ := Int.eq_ofNat_of_zero_le h.1
  refine ⟨n, rfl, ?_⟩
  have := h.2
  omega
theorem nat_W {n : Nat} (h : n < 2 ^ 32) : isW (n : Int) := by unfold isW; omega
theorem ch_eq {e f g : Int} (he : isW e) (hf : isW f) (hg : isW g) : Go.bits .or .i64 (Go.bits .and .i64 e f) (Go.bits .and .i64 (Go.bits .xor .i64 e 4294967295) g) = Go.bits .xor .i64 (Go.bits .and .i64 e f) (Go.bits .and .i64 (Go.bits .xor .i64 4294967295 e) g) := by
  obtain ⟨a, rfl, ha⟩ := W_nat he
  obtain ⟨b, rfl, hb⟩ := W_nat hf
  obtain ⟨c, rfl, hc⟩ := W_nat hg
  have hm : (4294967295 : Nat) < 2 ^ 32 := by decide
  have e1 : (4294967295 : Int) = ((4294967295 : Nat) : Int) := rfl
  have h1 : a &&& b < 2 ^ 32 := Nat.and_lt_two_pow _ hb
  have h2 : a ^^^ 4294967295 < 2 ^ 32 := Nat.xor_lt_two_pow ha hm
  have h3 : 4294967295 ^^^ a < 2 ^ 32 := Nat.xor_lt_two_pow hm ha
  rw [e1, (bits_w ha hb).1, (bits_w ha hm).2.2, (bits_w hm ha).2.2, (bits_w h2 hc).1, (bits_w h3 hc).1, (bits_w h1 (Nat.and_lt_two_pow _ hc)).2.1, (bits_w h1 (Nat.and_lt_two_pow _ hc)).2.2]
  congr 1
  apply Nat.eq_of_testBit_eq
  intro i
  simp only [Nat.testBit_or, Nat.testBit_and, Nat.testBit_xor]
  by_cases hi : i < 32
  · have : Nat.testBit 4294967295 i = true := by
      have := Nat.testBit_two_pow_sub_one 32 i
      simpa [hi] using this
    rw [this]
    cases a.testBit i <;> cases b.testBit i <;> cases c.testBit i <;> rfl
  · have z : a.testBit i = false := Nat.testBit_lt_two_pow (Nat.lt_of_lt_of_le ha (Nat.pow_le_pow_right (by decide) (by omega)))
    have y : c.testBit i = false := Nat.testBit_lt_two_pow (Nat.lt_of_lt_of_le hc (Nat.pow_le_pow_right (by decide) (by omega)))
    rw [z, y]
    simp
theorem maj_eq {e f g : Int} (he : isW e) (hf : isW f) (hg : isW g) : Go.bits .or .i64 (Go.bits .or .i64 (Go.bits .and .i64 e f) (Go.bits .and .i64 e g)) (Go.bits .and .i64 f g) = Go.bits .xor .i64 (Go.bits .xor .i64 (Go.bits .and .i64 e f) (Go.bits .and .i64 e g)) (Go.bits .and .i64 f g) := by
  obtain ⟨a, rfl, ha⟩ := W_nat he
  obtain ⟨b, rfl, hb⟩ := W_nat hf
  obtain ⟨c, rfl, hc⟩ := W_nat hg
  have h1 : a &&& b < 2 ^ 32 := Nat.and_lt_two_pow _ hb
  have h2 : a &&& c < 2 ^ 32 := Nat.and_lt_two_pow _ hc
  have h3 : b &&& c < 2 ^ 32 := Nat.and_lt_two_pow _ hc
  rw [(bits_w ha hb).1, (bits_w ha hc).1, (bits_w hb hc).1, (bits_w h1 h2).2.1, (bits_w h1 h2).2.2, (bits_w (Nat.or_lt_two_pow h1 h2) h3).2.1, (bits_w (Nat.xor_lt_two_pow h1 h2) h3).2.2]
  congr 1
  apply Nat.eq_of_testBit_eq
  intro i
  simp only [Nat.testBit_or, Nat.testBit_and, Nat.testBit_xor]
  cases a.testBit i <;> cases b.testBit i <;> cases c.testBit i <;> rfl

/-! the block function -/
theorem rdI_nat {l : List Int} {n : Nat} (h : n < l.length) : rdI l (n : Int) = l[n] := by simp [rdI, h]
def Ws (l : List Int) : Prop := ∀ x ∈ l, isW x
theorem Ws_rd {l : List Int} (h : Ws l) (i : Int) : isW (rdI l i) := by
  unfold rdI
  by_cases hi : i.toNat < l.length
  · rw [List.getD_eq_getElem?_getD, List.getElem?_eq_getElem hi]
    exact h _ (List.getElem_mem hi)
  · rw [List.getD_eq_getElem?_getD, List.getElem?_eq_none (by omega)]
    show isW 0
    unfold isW
    omega
/-- A word out of four bytes. -/
def wb (b : List Int) (i : Nat) : Int := Go.bits .or .i64 (Go.bits .or .i64 (Go.bits .or .i64 (shlI .i64 (wrap64 (rdI b ((4 * i : Nat) : Int))) 24) (shlI .i64 (wrap64 (rdI b ((4 * i + 1 : Nat) : Int))) 16)) (shlI .i64 (wrap64 (rdI b ((4 * i + 2 : Nat) : Int))) 8)) (wrap64 (rdI b ((4 * i + 3 : Nat) : Int)))
/-- The next word of the schedule. -/
def sc (w : List Int) : Int :=
  let x := rdI w ((w.length - 15 : Nat) : Int)
  let y := rdI w ((w.length - 2 : Nat) : Int)
  Go.bits .and .i64 (wrap64 (wrap64 (wrap64 (rdI w ((w.length - 16 : Nat) : Int) + Go.bits .xor .i64 (Go.bits .xor .i64 (turn x 7) (turn x 18)) (shrI .i64 x 3)) + rdI w ((w.length - 7 : Nat) : Int)) + Go.bits .xor .i64 (Go.bits .xor .i64 (turn y 17) (turn y 19)) (shrI .i64 y 10))) 4294967295
def grow (w : List Int) : Nat → List Int
  | 0 => w
  | d + 1 => grow (w ++ [sc w]) d
def rnd (K W : List Int) (i : Nat) (v : List Int) : List Int :=
  let t := wrap64 (wrap64 (wrap64 (wrap64 (rdI v 7 + Go.bits .xor .i64 (Go.bits .xor .i64 (turn (rdI v 4) 6) (turn (rdI v 4) 11)) (turn (rdI v 4) 25)) + Go.bits .xor .i64 (Go.bits .and .i64 (rdI v 4) (rdI v 5)) (Go.bits .and .i64 (Go.bits .xor .i64 4294967295 (rdI v 4)) (rdI v 6))) + rdI K (i : Int)) + rdI W (i : Int))
  let u := wrap64 (Go.bits .xor .i64 (Go.bits .xor .i64 (turn (rdI v 0) 2) (turn (rdI v 0) 13)) (turn (rdI v 0) 22) + Go.bits .xor .i64 (Go.bits .xor .i64 (Go.bits .and .i64 (rdI v 0) (rdI v 1)) (Go.bits .and .i64 (rdI v 0) (rdI v 2))) (Go.bits .and .i64 (rdI v 1) (rdI v 2)))
  [Go.bits .and .i64 (wrap64 (t + u)) 4294967295, rdI v 0, rdI v 1, rdI v 2, Go.bits .and .i64 (wrap64 (rdI v 3 + t)) 4294967295, rdI v 4, rdI v 5, rdI v 6]
def rnds (K W : List Int) : Nat → Nat → List Int → List Int
  | 0, _, v => v
  | d + 1, i, v => rnds K W d (i + 1) (rnd K W i v)
def outs (h v : List Int) (n : Nat) : List Int := (List.range n).map fun (i : Nat) => Go.bits .and .i64 (wrap64 (rdI h (i : Int) + rdI v (i : Int))) 4294967295
def shaK : List Int := [1116352408, 1899447441, 3049323471, 3921009573, 961987163, 1508970993, 2453635748, 2870763221, 3624381080, 310598401, 607225278, 1426881987, 1925078388, 2162078206, 2614888103, 3248222580, 3835390401, 4022224774, 264347078, 604807628, 770255983, 1249150122, 1555081692, 1996064986, 2554220882, 2821834349, 2952996808, 3210313671, 3336571891, 3584528711, 113926993, 338241895, 666307205, 773529912, 1294757372, 1396182291, 1695183700, 1986661051, 2177026350, 2456956037, 2730485921, 2820302411, 3259730800, 3345764771, 3516065817, 3600352804, 4094571909, 275423344, 430227734, 506948616, 659060556, 883997877, 958139571, 1322822218, 1537002063, 1747873779, 1955562222, 2024104815, 2227730452, 2361852424, 2428436474, 2756734187, 3204031479, 3329325298]
def shaW (b : List Int) : List Int := grow ((List.range 16).map (wb b)) 48
def shaBlk (h b : List Int) : List Int := outs h (rnds shaK (shaW b) 64 0 h) 8
def bytesOk (b : List Int) : Prop := ∀ x ∈ b, 0 ≤ x ∧ x < 256

theorem grow_length : ∀ (d : Nat) (w : List Int), (grow w d).length = w.length + d
  | 0, w => rfl
  | d + 1, w => by rw [grow, grow_length d]; simp; omega
theorem grow_W : ∀ (d : Nat) (w : List Int), Ws w → Ws (grow w d)
  | 0, w, h => h
  | d + 1, w, h => grow_W d _ fun x hx => by
    rcases List.mem_append.1 hx with hx | hx
    · exact h x hx
    · rw [List.mem_singleton.1 hx]; exact and_mask _
theorem rnd_W (K W : List Int) (i : Nat) {v : List Int} (h : Ws v) : Ws (rnd K W i v) ∧ (rnd K W i v).length = 8 := by
  refine ⟨fun x hx => ?_, rfl⟩
  simp only [rnd, List.mem_cons, List.not_mem_nil, or_false] at hx
  rcases hx with rfl | rfl | rfl | rfl | rfl | rfl | rfl | rfl <;> first | exact and_mask _ | exact Ws_rd h _
theorem outs_W (h v : List Int) (n : Nat) : Ws (outs h v n) ∧ (outs h v n).length = n := by
  refine ⟨fun x hx => ?_, by simp [outs]⟩
  obtain ⟨i, _, rfl⟩ := List.mem_map.1 hx
  exact and_mask _
theorem byte_shl {x : Int} (h0 : 0 ≤ x) (h1 : x < 256) (s : Nat) (hs : s ≤ 24) : ∃ n : Nat, shlI .i64 (wrap64 x) (s : Int) = (n : Int) ∧ n < 2 ^ 32 := by
  obtain ⟨n, rfl⟩ := Int.eq_ofNat_of_zero_le h0
  rw [w64 (by omega) (by omega)]
  have hp : (2 : Nat) ^ s ≤ 2 ^ 24 := Nat.pow_le_pow_right (by decide) hs
  have hlt : n * 2 ^ s < 2 ^ 32 := by
    have : n * 2 ^ s ≤ 255 * 2 ^ 24 := Nat.mul_le_mul (by omega) hp
    omega
  refine ⟨n * 2 ^ s, ?_, hlt⟩
  unfold shlI
  have e : min ((s : Int)).toNat (IntKind.bits .i64) = s := by
    have : IntKind.bits .i64 = 64 := rfl
    rw [this, Int.toNat_natCast]
    omega
  have e2 : ((n : Int) * 2 ^ s) = ((n * 2 ^ s : Nat) : Int) := by push_cast; rfl
  rw [e, e2]
  exact wraps_i64 _ (by omega) (by omega)
theorem rd_byte {b : List Int} (h : bytesOk b) (i : Int) : 0 ≤ rdI b i ∧ rdI b i < 256 := by
  unfold rdI
  by_cases hi : i.toNat < b.length
  · rw [List.getD_eq_getElem?_getD, List.getElem?_eq_getElem hi]
    exact h _ (List.getElem_mem hi)
  · rw [List.getD_eq_getElem?_getD, List.getElem?_eq_none (by omega)]
    exact ⟨by simp, by simp⟩
theorem wb_W {b : List Int} (h : bytesOk b) (i : Nat) : isW (wb b i) := by
  unfold wb
  obtain ⟨n1, e1, l1⟩ := byte_shl (rd_byte h ((4 * i : Nat) : Int)).1 (rd_byte h _).2 24 (by omega)
  obtain ⟨n2, e2, l2⟩ := byte_shl (rd_byte h ((4 * i + 1 : Nat) : Int)).1 (rd_byte h _).2 16 (by omega)
  obtain ⟨n3, e3, l3⟩ := byte_shl (rd_byte h ((4 * i + 2 : Nat) : Int)).1 (rd_byte h _).2 8 (by omega)
  have h4 := rd_byte h ((4 * i + 3 : Nat) : Int)
  have e4 := w64 (n := rdI b ((4 * i + 3 : Nat) : Int)) (by omega) (by omega)
  rw [e4]
  obtain ⟨n4, e5⟩ := Int.eq_ofNat_of_zero_le h4.1
  have l4 : n4 < 2 ^ 32 := by omega
  have f1 : shlI .i64 (wrap64 (rdI b ((4 * i : Nat) : Int))) 24 = (n1 : Int) := e1
  have f2 : shlI .i64 (wrap64 (rdI b ((4 * i + 1 : Nat) : Int))) 16 = (n2 : Int) := e2
  have f3 : shlI .i64 (wrap64 (rdI b ((4 * i + 2 : Nat) : Int))) 8 = (n3 : Int) := e3
  rw [f1, f2, f3, e5, (bits_w l1 l2).2.1, (bits_w (Nat.or_lt_two_pow l1 l2) l3).2.1, (bits_w (Nat.or_lt_two_pow (Nat.or_lt_two_pow l1 l2) l3) l4).2.1]
  exact nat_W (Nat.or_lt_two_pow (Nat.or_lt_two_pow (Nat.or_lt_two_pow l1 l2) l3) l4)
theorem shaW_W {b : List Int} (h : bytesOk b) : Ws (shaW b) ∧ (shaW b).length = 64 := by
  refine ⟨grow_W _ _ fun x hx => ?_, by simp [shaW, grow_length]⟩
  obtain ⟨i, _, rfl⟩ := List.mem_map.1 hx
  exact wb_W h i
end Go.Proofs.YtgmloaobmddmaaaG
namespace Go.Proofs.YtgmloaobmddmaaaG
open Go Go.Proofs.YtgmloaobmddmaaaRv Go.RowKit
set_option linter.unusedVariables false
set_option linter.unusedSimpArgs false

theorem w4 (i j : Nat) (h : i ≤ 1000000000) (hj : j ≤ 1000) : wrap64 (((i : Nat) : Int) + (j : Int)) = ((i + j : Nat) : Int) := by unfold wrap64; omega
theorem rdI_app {l m : List Int} {n : Nat} (h : n < l.length) : rdI (l ++ m) (n : Int) = rdI l (n : Int) := by simp [rdI, List.getD_eq_getElem?_getD, List.getElem?_append_left h]
theorem sub_nat {n j : Nat} (h : j ≤ n) (hn : n ≤ 1000000) : wrap64 ((n : Int) - (j : Int)) = ((n - j : Nat) : Int) := by unfold wrap64; omega
theorem sub_nat' {n j : Nat} (h : j ≤ n) : (n : Int) - (j : Int) = ((n - j : Nat) : Int) := by omega
/-- Words that fill the front of an array. -/
def pad (w : List Int) : List Int := w ++ List.replicate (64 - w.length) 0
theorem pad_length {w : List Int} (h : w.length ≤ 64) : (pad w).length = 64 := by simp [pad]; omega
theorem pad_rd {w : List Int} {n : Nat} (h : n < w.length) : rdI (pad w) (n : Int) = rdI w (n : Int) := rdI_app h
theorem pad_set {w : List Int} (h : w.length < 64) (x : Int) : (pad w).set w.length x = pad (w ++ [x]) := by
  unfold pad
  rw [List.set_append_right _ _ (Nat.le_refl _), Nat.sub_self, List.append_assoc]
  have : 64 - w.length = (64 - (w ++ [x]).length) + 1 := by simp; omega
  rw [this, List.replicate_succ]
  simp

theorem sc_def (w : List Int) : sc w = Go.bits .and .i64 (wrap64 (wrap64 (wrap64 (rdI w ((w.length - 16 : Nat) : Int) + Go.bits .xor .i64 (Go.bits .xor .i64 (turn (rdI w ((w.length - 15 : Nat) : Int)) 7) (turn (rdI w ((w.length - 15 : Nat) : Int)) 18)) (shrI .i64 (rdI w ((w.length - 15 : Nat) : Int)) 3)) + rdI w ((w.length - 7 : Nat) : Int)) + Go.bits .xor .i64 (Go.bits .xor .i64 (turn (rdI w ((w.length - 2 : Nat) : Int)) 17) (turn (rdI w ((w.length - 2 : Nat) : Int)) 19)) (shrI .i64 (rdI w ((w.length - 2 : Nat) : Int)) 10))) 4294967295 := rfl
section
variable (y0 y1 y2 : Bool) (h b : List Int)

/-! the program's -/
/-! the reference's -/
theorem shaBlk_W : Ws (shaBlk h b) ∧ (shaBlk h b).length = 8 := outs_W _ _ _
end
end Go.Proofs.YtgmloaobmddmaaaG
namespace Go.Proofs.YtgmloaobmddmaaaG
open Go Go.Proofs.YtgmloaobmddmaaaRv Go.RowKit
set_option linter.unusedVariables false
set_option linter.unusedSimpArgs false

/-! padding -/
def padz : Nat → List Int → List Int
  | 0, l => l
  | d + 1, l => if l.length % 64 = 56 then l else padz d (l ++ [0])
theorem padz_spec : ∀ (d : Nat) (l : List Int), (∃ j, j ≤ d ∧ (l.length + j) % 64 = 56) → (padz d l).length % 64 = 56 ∧ (padz d l).length ≤ l.length + d ∧ (bytesOk l → bytesOk (padz d l))
  | 0, l, ⟨j, h1, h2⟩ => by
    obtain rfl : j = 0 := by omega
    exact ⟨by simpa [padz] using h2, by simp [padz], fun h => h⟩
  | d + 1, l, ⟨j, h1, h2⟩ => by
    unfold padz
    split
    · rename_i h
      exact ⟨h, by omega, fun h => h⟩
    · rename_i h
      have hj : j ≠ 0 := fun e => h (by rw [← h2, e, Nat.add_zero])
      obtain ⟨p1, p2, p3⟩ := padz_spec d (l ++ [0]) ⟨j - 1, by omega, by simp only [List.length_append, List.length_singleton]; rw [← h2]; congr 1; omega⟩
      refine ⟨p1, by simp only [List.length_append, List.length_singleton] at p2; omega, fun hb => p3 fun x hx => ?_⟩
      rcases List.mem_append.1 hx with hx | hx
      · exact hb x hx
      · rw [List.mem_singleton.1 hx]; omega
def padl (n : Int) : Nat → List Int → List Int
  | 0, l => l
  | d + 1, l => padl n d (l ++ [(shrI .i64 n (wrap64 ((8 : Int) * (d : Int)))) % 256])
theorem padl_spec (n : Int) : ∀ (d : Nat) (l : List Int), (padl n d l).length = l.length + d ∧ (bytesOk l → bytesOk (padl n d l))
  | 0, l => ⟨rfl, fun h => h⟩
  | d + 1, l => by
    obtain ⟨h1, h2⟩ := padl_spec n d (l ++ [(shrI .i64 n (wrap64 ((8 : Int) * (d : Int)))) % 256])
    refine ⟨by rw [padl, h1]; simp; omega, fun hb => h2 fun x hx => ?_⟩
    rcases List.mem_append.1 hx with hx | hx
    · exact hb x hx
    · rw [List.mem_singleton.1 hx]; omega
def shaPadV (l : List Int) : List Int := padl (wrap64 ((8 : Int) * (l.length : Int))) 8 (padz 64 (l ++ [128]))
theorem mod_ex (n : Nat) : ∃ j, j ≤ 64 ∧ (n + j) % 64 = 56 := ⟨(56 + 64 - n % 64) % 64, by omega, by omega⟩
theorem shaPadV_spec (l : List Int) (hb : bytesOk l) : (shaPadV l).length % 64 = 0 ∧ (shaPadV l).length ≤ l.length + 73 ∧ bytesOk (shaPadV l) := by
  obtain ⟨p1, p2, p3⟩ := padz_spec 64 (l ++ [128]) (mod_ex _)
  obtain ⟨q1, q2⟩ := padl_spec (wrap64 ((8 : Int) * (l.length : Int))) 8 (padz 64 (l ++ [128]))
  unfold shaPadV
  simp only [List.length_append, List.length_singleton] at p2
  refine ⟨by omega, by omega, q2 (p3 fun x hx => ?_)⟩
  rcases List.mem_append.1 hx with hx | hx
  · exact hb x hx
  · rw [List.mem_singleton.1 hx]; omega
theorem tmod_len (n : Nat) : Int.tmod (n : Int) 64 = ((n % 64 : Nat) : Int) := by rw [Int.tmod_eq_emod_of_nonneg (by omega)]; omega
theorem dec_nat (d : Nat) (h : d ≤ 100) : wrap64 ((d : Int) - 1) = (d : Int) - 1 := by unfold wrap64; omega
theorem mul8 (d : Nat) (h : d ≤ 100) : (0 : Int) ≤ wrap64 ((8 : Int) * (d : Int)) := by unfold wrap64; omega

section
variable (z : Bool) (l : List Int)
end

/-! the hash -/
def shaH0 : List Int := [1779033703, 3144134277, 1013904242, 2773480762, 1359893119, 2600822924, 528734635, 1541459225]
theorem shaH0_W : Ws shaH0 ∧ shaH0.length = 8 := by
  refine ⟨fun x hx => ?_, rfl⟩
  simp only [shaH0, List.mem_cons, List.not_mem_nil, or_false] at hx
  rcases hx with rfl | rfl | rfl | rfl | rfl | rfl | rfl | rfl <;> exact ⟨by omega, by omega⟩
def shaL (p : List Int) : Nat → Nat → List Int → List Int
  | 0, _, h => h
  | d + 1, i, h => shaL p d (i + 1) (shaBlk h ((p.take (64 * i + 64)).drop (64 * i)))
theorem shaL_W (p : List Int) : ∀ (d i : Nat) (h : List Int), Ws h ∧ h.length = 8 → Ws (shaL p d i h) ∧ (shaL p d i h).length = 8
  | 0, i, h, hh => hh
  | d + 1, i, h, hh => shaL_W p d (i + 1) _ (shaBlk_W _ _)
def four (x : Int) : List Int := [(shrI .i64 x 24) % 256, (shrI .i64 x 16) % 256, (shrI .i64 x 8) % 256, x % 256]
def sha (l : List Int) : List Int := (shaL (shaPadV l) ((shaPadV l).length / 64) 0 shaH0).flatMap four
theorem flat4 (h : List Int) : (h.flatMap four).length = 4 * h.length ∧ bytesOk (h.flatMap four) := by
  induction h with
  | nil => exact ⟨rfl, fun x hx => by simp at hx⟩
  | cons a t ih =>
    refine ⟨by rw [List.flatMap_cons, List.length_append, ih.1]; simp [four]; omega, fun x hx => ?_⟩
    rw [List.flatMap_cons] at hx
    rcases List.mem_append.1 hx with hx | hx
    · simp only [four, List.mem_cons, List.not_mem_nil, or_false] at hx
      rcases hx with rfl | rfl | rfl | rfl <;> omega
    · exact ih.2 x hx
theorem sha_spec (l : List Int) : (sha l).length = 32 ∧ bytesOk (sha l) := by
  obtain ⟨h1, h2⟩ := shaL_W (shaPadV l) ((shaPadV l).length / 64) 0 shaH0 shaH0_W
  obtain ⟨h3, h4⟩ := flat4 (shaL (shaPadV l) ((shaPadV l).length / 64) 0 shaH0)
  exact ⟨by unfold sha; rw [h3, h2], h4⟩
theorem cut64 {p : List Int} {i : Nat} (h : 64 * i + 64 ≤ p.length) : ((p.take (64 * i + 64)).drop (64 * i)).length = 64 := by simp; omega
theorem cut_ok {p : List Int} (h : bytesOk p) (a b : Nat) : bytesOk ((p.take a).drop b) := fun x hx => h x (List.mem_of_mem_take (List.mem_of_mem_drop hx))
theorem step64 (i : Nat) (h : i ≤ 100000000) : wrap64 (((64 * i : Nat) : Int) + 64) = ((64 * i + 64 : Nat) : Int) := by unfold wrap64; omega

theorem succ_nat (i : Nat) (h : i ≤ 1000000000) : wrap64 ((i : Int) + 1) = ((i + 1 : Nat) : Int) := by unfold wrap64; omega
/-! tags -/
def macKey (l : List Int) : List Int := let k := if l.length > 64 then sha l else l; k ++ List.replicate (64 - k.length) 0
def xorB (c x : Int) : Int := Go.bits .xor .u8 c x
theorem xorB_ok (c x : Int) : 0 ≤ xorB c x ∧ xorB c x < 256 := by
  unfold xorB
  simp only [Go.bits]
  show 0 ≤ IntKind.u8.wrap _ ∧ IntKind.u8.wrap _ < 256
  rw [IntKind.wrap_u8]
  omega
def mac (key b : List Int) : List Int := sha ((macKey key).map (fun c => xorB c 92) ++ sha ((macKey key).map (fun c => xorB c 54) ++ b))
theorem mac_spec (key b : List Int) : (mac key b).length = 32 ∧ bytesOk (mac key b) := sha_spec _
theorem macKey_len (l : List Int) : (macKey l).length = 64 ∧ (bytesOk l → bytesOk (macKey l)) := by
  have hs := sha_spec l
  unfold macKey
  by_cases h : l.length > 64
  · rw [if_pos h]
    refine ⟨by simp [hs.1], fun _ x hx => ?_⟩
    rcases List.mem_append.1 hx with hx | hx
    · exact hs.2 x hx
    · rw [List.eq_of_mem_replicate hx]; omega
  · rw [if_neg h]
    refine ⟨by simp; omega, fun hb x hx => ?_⟩
    rcases List.mem_append.1 hx with hx | hx
    · exact hb x hx
    · rw [List.eq_of_mem_replicate hx]; omega
theorem front (k : List Int) (h : k.length ≤ 64) : k.take (List.replicate 64 (0 : Int)).length ++ (List.replicate 64 (0 : Int)).drop k.length = k ++ List.replicate (64 - k.length) 0 := by
  rw [List.length_replicate, List.take_of_length_le h, List.drop_replicate]
theorem xors_ok (l : List Int) (x : Int) : bytesOk (l.map fun c => xorB c x) := fun y hy => by
  obtain ⟨c, _, rfl⟩ := List.mem_map.1 hy
  exact xorB_ok c x
theorem app_ok {a b : List Int} (ha : bytesOk a) (hb : bytesOk b) : bytesOk (a ++ b) := fun x hx => by
  rcases List.mem_append.1 hx with hx | hx
  · exact ha x hx
  · exact hb x hx
end Go.Proofs.YtgmloaobmddmaaaG
namespace Go.Proofs.YtgmloaobmddmaaaG
open Go Go.Proofs.YtgmloaobmddmaaaRv Go.RowKit
set_option linter.unusedVariables false
set_option linter.unusedSimpArgs false

/-! signing -/
def Row.ok (r : Row) : Prop := r.f1.length ≤ 1048576 ∧ bytesOk r.f1
def Rows (l : List Row) : Prop := l.length ≤ 1048576 ∧ ∀ r ∈ l, r.ok
def noEntry : Int × Int × Bool × List Int × Bool := (0, 0, true, [], false)
def signLeave (l : List Row) (view high who : Int) : Int × Int × Bool × List Int × Bool :=
  if tabOk l = true ∧ (leaveV view high).1 = false ∧ (0 ≤ who ∧ who ≤ (l.length : Int) - 1) ∧ ¬ high ≥ view then (who, high, false, mac (l.getD who.toNat default).f1 (leaveV view high).2, true) else noEntry
def entryGood (l : List Row) (view who high : Int) (tag : List Int) : Bool := (signLeave l view high who).2.2.2.2 && sameB (signLeave l view high who).2.2.2.1 tag
/-! sizes -/
theorem laws_szByteS.ev (z : Bool) (l : List Int) (h : l.length ≤ 9223372036854775807) (a : Int) (h0 : 0 ≤ a) (h1 : a ≤ 1048576) : ∃ r, Ev (fun k => laws_szByteS.f k z l a) r ∧ SzR (okB l) a r := by
  have e : wrap64 (a - (l.length : Int)) = a - (l.length : Int) := w64 (by omega) (by omega)
  by_cases c : (l.length : Int) ≤ a
  · refine ⟨a - l.length, ev_step ?_, Or.inr ⟨by omega, by omega, by unfold okB; omega⟩⟩
    simp only [laws_szByteS.f, laws_szByteS.b, e]
    clear e
    exact ev_neg (by omega) (ev_some rfl)
  · refine ⟨-1, ev_step ?_, Or.inl rfl⟩
    simp only [laws_szByteS.f, laws_szByteS.b, e]
    clear e
    exact ev_pos (by omega) (ev_some rfl)
def Row.fit (r : Row) : Prop := r.f1.length ≤ 9223372036854775807
theorem laws_szRow.ev (r : Row) (h : r.fit) (a : Int) (h0 : 0 ≤ a) (h1 : a ≤ 1048576) : ∃ q, Ev (fun k => laws_szRow.f k r.f0 r.z r.f1 a) q ∧ SzR (okB r.f1) a q := by
  obtain ⟨q, e, s⟩ := laws_szByteS.ev r.z r.f1 h a h0 h1
  rcases s with rfl | ⟨s1, s2, s3⟩
  · refine ⟨-1, ev_step ?_, Or.inl rfl⟩
    simp only [laws_szRow.f, laws_szRow.b]
    exact Ev.bind e (ev_pos (by omega) (ev_some rfl))
  · refine ⟨q, ev_step ?_, Or.inr ⟨s1, s2, s3⟩⟩
    simp only [laws_szRow.f, laws_szRow.b]
    exact Ev.bind e (ev_neg (by omega) (ev_some rfl))
theorem laws_szRowS.ev0 (z : Bool) (l : List Row) (hl : l.length ≤ 1048576) (h : ∀ r ∈ l, r.fit) : ∀ (d n : Nat) (a : Int), n + d = l.length → 0 ≤ a → a ≤ 1048576 → ∃ q, Ev (fun k => laws_szRowS.l0 k z (l.map Row.t) a (n : Int)) q ∧ SzR (∀ r ∈ l.drop n, okB r.f1) a q
  | 0, n, a, hn, h0, h1 => by
    refine ⟨a, ev_step ?_, Or.inr ⟨h0, by omega, fun r hr => ?_⟩⟩
    · simp only [laws_szRowS.l0, laws_szRowS.l0b, List.length_map]
      exact ev_neg (by omega) (ev_some rfl)
    · rw [List.drop_of_length_le (by omega)] at hr; cases hr
  | d + 1, n, a, hn, h0, h1 => by
    have hlt : n < l.length := by omega
    obtain ⟨q, e, s⟩ := laws_szRow.ev l[n] (h _ (List.getElem_mem hlt)) a h0 h1
    rcases s with rfl | ⟨s1, s2, s3⟩
    · refine ⟨-1, ev_step ?_, Or.inl rfl⟩
      simp only [laws_szRowS.l0, laws_szRowS.l0b, List.length_map, Int.toNat_natCast, row_at hlt, Row.c0, Row.c1, Row.c1z]
      exact ev_pos (by omega) (ev_pos (by omega) (ev_pos (by omega) (Ev.bind e (ev_pos (by omega) (ev_some rfl)))))
    · obtain ⟨p, e2, s'⟩ := laws_szRowS.ev0 z l hl h d (n + 1) q (by omega) s1 (by omega)
      refine ⟨p, ev_step ?_, ?_⟩
      · simp only [laws_szRowS.l0, laws_szRowS.l0b, List.length_map, Int.toNat_natCast, row_at hlt, Row.c0, Row.c1, Row.c1z, succ_nat n (by omega)]
        exact ev_pos (by omega) (ev_pos (by omega) (ev_pos (by omega) (Ev.bind e (ev_neg (by omega) e2))))
      · rcases s' with rfl | ⟨t1, t2, t3⟩
        · exact Or.inl rfl
        · refine Or.inr ⟨t1, by omega, fun r hr => ?_⟩
          rw [List.drop_eq_getElem_cons hlt] at hr
          rcases List.mem_cons.1 hr with rfl | hr
          · exact s3
          · exact t3 r hr
def Fit (l : List Row) : Prop := l.length ≤ 9223372036854775807 ∧ ∀ r ∈ l, r.fit
def Few (l : List Row) : Prop := l.length ≤ 1048576 ∧ ∀ r ∈ l, okB r.f1
theorem laws_szRowS.ev (z : Bool) (l : List Row) (h : Fit l) (a : Int) (h0 : 0 ≤ a) (h1 : a ≤ 1048576) : ∃ q, Ev (fun k => laws_szRowS.f k z (l.map Row.t) a) q ∧ SzR (Few l) a q := by
  have hl := h.1
  have e : wrap64 (a - (l.length : Int)) = a - (l.length : Int) := w64 (by omega) (by omega)
  by_cases c : (l.length : Int) ≤ a
  · obtain ⟨q, e2, s⟩ := laws_szRowS.ev0 z l (by clear e; omega) h.2 l.length 0 (a - l.length) (by omega) (by clear e; omega) (by clear e; omega)
    refine ⟨q, ev_step ?_, ?_⟩
    · simp only [laws_szRowS.f, laws_szRowS.b, List.length_map, e]
      clear e
      exact ev_neg (by omega) e2
    · clear e
      rcases s with rfl | ⟨t1, t2, t3⟩
      · exact Or.inl rfl
      · exact Or.inr ⟨t1, by omega, by omega, t3⟩
  · refine ⟨-1, ev_step ?_, Or.inl rfl⟩
    simp only [laws_szRowS.f, laws_szRowS.b, List.length_map, e]
    clear e
    exact ev_pos (by omega) (ev_some rfl)
theorem laws_szTable.ev (z : Bool) (l : List Row) (h : Fit l) (a : Int) (h0 : 0 ≤ a) (h1 : a ≤ 1048576) : ∃ q, Ev (fun k => laws_szTable.f k z (l.map Row.t) a) q ∧ SzR (Few l) a q := by
  obtain ⟨q, e, s⟩ := laws_szRowS.ev z l h a h0 h1
  rcases s with rfl | ⟨s1, s2, s3⟩
  · refine ⟨-1, ev_step ?_, Or.inl rfl⟩
    simp only [laws_szTable.f, laws_szTable.b]
    exact Ev.bind e (ev_pos (by omega) (ev_some rfl))
  · refine ⟨q, ev_step ?_, Or.inr ⟨s1, s2, s3⟩⟩
    simp only [laws_szTable.f, laws_szTable.b]
    exact Ev.bind e (ev_neg (by omega) (ev_some rfl))
/-! copies -/
theorem laws_toByteS.ev (z : Bool) (l : List Int) (h : okB l) : Ev (fun k => laws_toByteS.f k z l) (false, l) := by
  have hl : l.length ≤ 1048576 := h
  refine ev_step ?_
  simp only [laws_toByteS.f, laws_toByteS.b]
  refine ev_pos trivial (ev_pos (by omega) (ev_pos (by omega) ?_))
  have key : ∀ (d n : Nat) (ys : List Int), n + d = l.length → ys.length = l.length → ys.take n = l.take n → Ev (fun k => laws_toByteS.l0 k z l ys (n : Int)) (false, l) := by
    intro d
    induction d with
    | zero =>
      intro n ys hn hy ht
      refine ev_step ?_
      simp only [laws_toByteS.l0, laws_toByteS.l0b]
      refine ev_neg (by omega) (ev_some ?_)
      obtain rfl : n = l.length := by omega
      rw [List.take_length, ← hy, List.take_length] at ht
      rw [ht]
    | succ d ih =>
      intro n ys hn hy ht
      have hlt : n < l.length := by omega
      refine ev_step ?_
      have i2 := ih (n + 1) (ys.set n l[n]) (by omega) (by simp [hy]) (by
        rw [List.take_succ_eq_append_getElem (by simp; omega), List.take_succ_eq_append_getElem hlt, List.take_set_of_le (Nat.le_refl n), ht, List.getElem_set_self])
      simp only [laws_toByteS.l0, laws_toByteS.l0b, rdI_nat hlt, succ_nat n (by omega), Int.toNat_natCast]
      exact ev_pos (by omega) (ev_pos (by omega) (ev_pos (by omega) (ev_pos (by omega) (ev_pos (by omega) i2))))
  exact key l.length 0 _ (by omega) (by simp) (by simp)
def Row.cp (r : Row) : Row := ⟨r.f0, false, r.f1⟩
theorem laws_toRow.ev (r : Row) (h : okB r.f1) : Ev (fun k => laws_toRow.f k r.f0 r.z r.f1) (r.f0, false, r.f1) := by
  refine ev_step ?_
  simp only [laws_toRow.f, laws_toRow.b]
  exact Ev.bind (laws_toByteS.ev r.z r.f1 h) (ev_some rfl)
theorem laws_toRowS.ev (z : Bool) (l : List Row) (h : Few l) : Ev (fun k => laws_toRowS.f k z (l.map Row.t)) (false, (l.map Row.cp).map Row.t) := by
  have hl : l.length ≤ 1048576 := h.1
  refine ev_step ?_
  simp only [laws_toRowS.f, laws_toRowS.b, List.length_map]
  refine ev_pos trivial (ev_pos (by omega) (ev_pos (by omega) ?_))
  have key : ∀ (d n : Nat) (ys : List T), n + d = l.length → ys.length = l.length → ys.take n = ((l.map Row.cp).map Row.t).take n → Ev (fun k => laws_toRowS.l0 k z (l.map Row.t) ys (n : Int)) (false, (l.map Row.cp).map Row.t) := by
    intro d
    induction d with
    | zero =>
      intro n ys hn hy ht
      refine ev_step ?_
      simp only [laws_toRowS.l0, laws_toRowS.l0b, List.length_map]
      refine ev_neg (by omega) (ev_some ?_)
      rw [List.take_of_length_le (by omega), List.take_of_length_le (by simp; omega)] at ht
      rw [ht]
    | succ d ih =>
      intro n ys hn hy ht
      have hlt : n < l.length := by omega
      refine ev_step ?_
      have i2 := ih (n + 1) (ys.set n (l[n].cp).t) (by omega) (by simp [hy]) (by
        rw [List.take_succ_eq_append_getElem (by simp; omega), List.take_succ_eq_append_getElem (by simp; omega), List.take_set_of_le (Nat.le_refl n), ht, List.getElem_set_self]
        simp)
      simp only [laws_toRowS.l0, laws_toRowS.l0b, List.length_map, succ_nat n (by omega), Int.toNat_natCast, row_at hlt, Row.c0, Row.c1, Row.c1z]
      exact ev_pos (by omega) (ev_pos (by omega) (ev_pos (by omega) (Ev.bind (laws_toRow.ev l[n] (h.2 _ (List.getElem_mem hlt))) (ev_pos (by omega) (ev_pos (by omega) i2)))))
  exact key l.length 0 _ (by omega) (by simp) (by simp)
theorem laws_toTable.ev (z : Bool) (l : List Row) (h : Few l) : Ev (fun k => laws_toTable.f k z (l.map Row.t)) (false, (l.map Row.cp).map Row.t) := by
  refine ev_step ?_
  simp only [laws_toTable.f, laws_toTable.b]
  exact Ev.bind (laws_toRowS.ev z l h) (ev_some rfl)
/-! comparisons -/
theorem laws_eqByteS.ev (y z : Bool) (l : List Int) (h : okB l) : Ev (fun k => laws_eqByteS.f k y l z l) true := by
  have hl : l.length ≤ 1048576 := h
  refine ev_step ?_
  simp only [laws_eqByteS.f, laws_eqByteS.b]
  refine ev_neg (by simp) ?_
  have key : ∀ (d n : Nat), n + d = l.length → Ev (fun k => laws_eqByteS.l0 k y l z l (n : Int)) true := by
    intro d
    induction d with
    | zero =>
      intro n hn
      refine ev_step ?_
      simp only [laws_eqByteS.l0, laws_eqByteS.l0b]
      exact ev_neg (by omega) (ev_some rfl)
    | succ d ih =>
      intro n hn
      refine ev_step ?_
      simp only [laws_eqByteS.l0, laws_eqByteS.l0b, succ_nat n (by omega)]
      exact ev_pos (by omega) (ev_pos (by omega) (ev_pos (by omega) (ev_pos (by omega) (ev_pos (by omega) (ev_neg (by simp) (ih (n + 1) (by omega)))))))
  exact key l.length 0 (by omega)
theorem laws_eqRow.ev (r : Row) (h : okB r.f1) : Ev (fun k => laws_eqRow.f k r.f0 r.z r.f1 r.f0 r.z r.f1) true := by
  refine ev_step ?_
  simp only [laws_eqRow.f, laws_eqRow.b]
  exact ev_neg (by simp) (Ev.bind (laws_eqByteS.ev _ _ _ h) (ev_neg (by simp) (ev_some rfl)))
theorem laws_eqRowS.ev (y z : Bool) (l : List Row) (h : Few l) : Ev (fun k => laws_eqRowS.f k y (l.map Row.t) z (l.map Row.t)) true := by
  have hl : l.length ≤ 1048576 := h.1
  refine ev_step ?_
  simp only [laws_eqRowS.f, laws_eqRowS.b]
  refine ev_neg (by simp) ?_
  have key : ∀ (d n : Nat), n + d = l.length → Ev (fun k => laws_eqRowS.l0 k y (l.map Row.t) z (l.map Row.t) (n : Int)) true := by
    intro d
    induction d with
    | zero =>
      intro n hn
      refine ev_step ?_
      simp only [laws_eqRowS.l0, laws_eqRowS.l0b, List.length_map]
      exact ev_neg (by omega) (ev_some rfl)
    | succ d ih =>
      intro n hn
      have hlt : n < l.length := by omega
      refine ev_step ?_
      simp only [laws_eqRowS.l0, laws_eqRowS.l0b, List.length_map, Int.toNat_natCast, row_at hlt, Row.c0, Row.c1, Row.c1z, succ_nat n (by omega)]
      exact ev_pos (by omega) (ev_pos (by omega) (ev_pos (by omega) (ev_pos (by omega) (ev_pos (by omega) (Ev.bind (laws_eqRow.ev l[n] (h.2 _ (List.getElem_mem hlt))) (ev_neg (by simp) (ih (n + 1) (by omega))))))))
  exact key l.length 0 (by omega)
theorem laws_eqTable.ev (y z : Bool) (l : List Row) (h : Few l) : Ev (fun k => laws_eqTable.f k y (l.map Row.t) z (l.map Row.t)) true := by
  refine ev_step ?_
  simp only [laws_eqTable.f, laws_eqTable.b]
  exact Ev.bind (laws_eqRowS.ev y z l h) (ev_neg (by simp) (ev_some rfl))
/-! the law -/
theorem few_cp {l : List Row} (h : Few l) : Few (l.map Row.cp) := ⟨by simpa using h.1, fun r hr => by
  obtain ⟨x, hx, rfl⟩ := List.mem_map.1 hr
  exact h.2 x hx⟩
end Go.Proofs.YtgmloaobmddmaaaG
namespace Go.Proofs.YtgmloaobmddmaaaG
open Go Go.Proofs.YtgmloaobmddmaaaRv Go.RowKit
set_option linter.unusedVariables false
set_option linter.unusedSimpArgs false

structure By where
  z : Bool
  l : List Int
instance : Inhabited By := ⟨⟨false, []⟩⟩
def By.t (b : By) : T := .nums 5 .u8 b.z b.l
def By.cp (b : By) : By := ⟨false, b.l⟩
theorem by_at {l : List By} {i : Nat} (h : i < l.length) : (l.map By.t).getD i .bad = (l[i]).t := by simp [List.getD_eq_getElem?_getD, h]
theorem By.c0z (b : By) : (b.t.cells.getD 0 .bad).isNil = b.z := rfl
theorem By.c0 (b : By) : (b.t.cells.getD 0 .bad).toNums = b.l := rfl
def FitB (l : List By) : Prop := l.length ≤ 9223372036854775807 ∧ ∀ b ∈ l, b.l.length ≤ 9223372036854775807
def FewB (l : List By) : Prop := l.length ≤ 1048576 ∧ ∀ b ∈ l, okB b.l
theorem fewB_cp {l : List By} (h : FewB l) : FewB (l.map By.cp) := ⟨by simpa using h.1, fun r hr => by
  obtain ⟨x, hx, rfl⟩ := List.mem_map.1 hr
  exact h.2 x hx⟩
theorem laws_szByteSS.ev0 (z : Bool) (l : List By) (hl : l.length ≤ 1048576) (h : ∀ b ∈ l, b.l.length ≤ 9223372036854775807) : ∀ (d n : Nat) (a : Int), n + d = l.length → 0 ≤ a → a ≤ 1048576 → ∃ q, Ev (fun k => laws_szByteSS.l0 k z (l.map By.t) a (n : Int)) q ∧ SzR (∀ r ∈ l.drop n, okB r.l) a q
  | 0, n, a, hn, h0, h1 => by
    refine ⟨a, ev_step ?_, Or.inr ⟨h0, by omega, fun r hr => ?_⟩⟩
    · simp only [laws_szByteSS.l0, laws_szByteSS.l0b, List.length_map]
      exact ev_neg (by omega) (ev_some rfl)
    · rw [List.drop_of_length_le (by omega)] at hr; cases hr
  | d + 1, n, a, hn, h0, h1 => by
    have hlt : n < l.length := by omega
    obtain ⟨q, e, s⟩ := laws_szByteS.ev l[n].z l[n].l (h _ (List.getElem_mem hlt)) a h0 h1
    rcases s with rfl | ⟨s1, s2, s3⟩
    · refine ⟨-1, ev_step ?_, Or.inl rfl⟩
      simp only [laws_szByteSS.l0, laws_szByteSS.l0b, List.length_map, Int.toNat_natCast, by_at hlt, By.c0, By.c0z]
      exact ev_pos (by omega) (ev_pos (by omega) (ev_pos (by omega) (Ev.bind e (ev_pos (by omega) (ev_some rfl)))))
    · obtain ⟨p, e2, s'⟩ := laws_szByteSS.ev0 z l hl h d (n + 1) q (by omega) s1 (by omega)
      refine ⟨p, ev_step ?_, ?_⟩
      · simp only [laws_szByteSS.l0, laws_szByteSS.l0b, List.length_map, Int.toNat_natCast, by_at hlt, By.c0, By.c0z, succ_nat n (by omega)]
        exact ev_pos (by omega) (ev_pos (by omega) (ev_pos (by omega) (Ev.bind e (ev_neg (by omega) e2))))
      · rcases s' with rfl | ⟨t1, t2, t3⟩
        · exact Or.inl rfl
        · refine Or.inr ⟨t1, by omega, fun r hr => ?_⟩
          rw [List.drop_eq_getElem_cons hlt] at hr
          rcases List.mem_cons.1 hr with rfl | hr
          · exact s3
          · exact t3 r hr
theorem laws_szByteSS.ev (z : Bool) (l : List By) (h : FitB l) (a : Int) (h0 : 0 ≤ a) (h1 : a ≤ 1048576) : ∃ q, Ev (fun k => laws_szByteSS.f k z (l.map By.t) a) q ∧ SzR (FewB l) a q := by
  have hl := h.1
  have e : wrap64 (a - (l.length : Int)) = a - (l.length : Int) := w64 (by omega) (by omega)
  by_cases c : (l.length : Int) ≤ a
  · obtain ⟨q, e2, s⟩ := laws_szByteSS.ev0 z l (by clear e; omega) h.2 l.length 0 (a - l.length) (by omega) (by clear e; omega) (by clear e; omega)
    refine ⟨q, ev_step ?_, ?_⟩
    · simp only [laws_szByteSS.f, laws_szByteSS.b, List.length_map, e]
      clear e
      exact ev_neg (by omega) e2
    · clear e
      rcases s with rfl | ⟨t1, t2, t3⟩
      · exact Or.inl rfl
      · exact Or.inr ⟨t1, by omega, by omega, t3⟩
  · refine ⟨-1, ev_step ?_, Or.inl rfl⟩
    simp only [laws_szByteSS.f, laws_szByteSS.b, List.length_map, e]
    clear e
    exact ev_pos (by omega) (ev_some rfl)
theorem laws_toByteSS.ev (z : Bool) (l : List By) (h : FewB l) : Ev (fun k => laws_toByteSS.f k z (l.map By.t)) (false, (l.map By.cp).map By.t) := by
  have hl : l.length ≤ 1048576 := h.1
  refine ev_step ?_
  simp only [laws_toByteSS.f, laws_toByteSS.b, List.length_map]
  refine ev_pos trivial (ev_pos (by omega) (ev_pos (by omega) ?_))
  have key : ∀ (d n : Nat) (ys : List T), n + d = l.length → ys.length = l.length → ys.take n = ((l.map By.cp).map By.t).take n → Ev (fun k => laws_toByteSS.l0 k z (l.map By.t) ys (n : Int)) (false, (l.map By.cp).map By.t) := by
    intro d
    induction d with
    | zero =>
      intro n ys hn hy ht
      refine ev_step ?_
      simp only [laws_toByteSS.l0, laws_toByteSS.l0b, List.length_map]
      refine ev_neg (by omega) (ev_some ?_)
      rw [List.take_of_length_le (by omega), List.take_of_length_le (by simp; omega)] at ht
      rw [ht]
    | succ d ih =>
      intro n ys hn hy ht
      have hlt : n < l.length := by omega
      refine ev_step ?_
      have i2 := ih (n + 1) (ys.set n (l[n].cp).t) (by omega) (by simp [hy]) (by
        rw [List.take_succ_eq_append_getElem (by simp; omega), List.take_succ_eq_append_getElem (by simp; omega), List.take_set_of_le (Nat.le_refl n), ht, List.getElem_set_self]
        simp)
      simp only [laws_toByteSS.l0, laws_toByteSS.l0b, List.length_map, succ_nat n (by omega), Int.toNat_natCast, by_at hlt, By.c0, By.c0z]
      exact ev_pos (by omega) (ev_pos (by omega) (ev_pos (by omega) (Ev.bind (laws_toByteS.ev l[n].z l[n].l (h.2 _ (List.getElem_mem hlt))) (ev_pos (by omega) (ev_pos (by omega) i2)))))
  exact key l.length 0 _ (by omega) (by simp) (by simp)
theorem laws_eqByteSS.ev (y z : Bool) (l : List By) (h : FewB l) : Ev (fun k => laws_eqByteSS.f k y (l.map By.t) z (l.map By.t)) true := by
  have hl : l.length ≤ 1048576 := h.1
  refine ev_step ?_
  simp only [laws_eqByteSS.f, laws_eqByteSS.b]
  refine ev_neg (by simp) ?_
  have key : ∀ (d n : Nat), n + d = l.length → Ev (fun k => laws_eqByteSS.l0 k y (l.map By.t) z (l.map By.t) (n : Int)) true := by
    intro d
    induction d with
    | zero =>
      intro n hn
      refine ev_step ?_
      simp only [laws_eqByteSS.l0, laws_eqByteSS.l0b, List.length_map]
      exact ev_neg (by omega) (ev_some rfl)
    | succ d ih =>
      intro n hn
      have hlt : n < l.length := by omega
      refine ev_step ?_
      simp only [laws_eqByteSS.l0, laws_eqByteSS.l0b, List.length_map, Int.toNat_natCast, by_at hlt, By.c0, By.c0z, succ_nat n (by omega)]
      exact ev_pos (by omega) (ev_pos (by omega) (ev_pos (by omega) (ev_pos (by omega) (ev_pos (by omega) (Ev.bind (laws_eqByteS.ev _ _ _ (h.2 _ (List.getElem_mem hlt))) (ev_neg (by simp) (ih (n + 1) (by omega))))))))
  exact key l.length 0 (by omega)
def byAll (p : By → By → Bool) (a b : List By) : Bool := decide (a.length = b.length) && allFrom (fun n => p (a.getD n default) (b.getD n default)) 0 a.length
def treeSame (a b : List By) : Bool := byAll (fun x y => sameB x.l y.l) a b
theorem len_eq {m n : Nat} : ((m : Int) = (n : Int)) ↔ m = n := by omega
theorem getD_in {α : Type} [Inhabited α] {l : List α} {n : Nat} (h : n < l.length) : l.getD n default = l[n] := by simp [h]
theorem impl_TreeSame.ev (y z : Bool) (a b : List By) (ha : a.length ≤ 1048576) : Ev (fun k => impl_TreeSame.f k y (a.map By.t) z (b.map By.t)) (treeSame a b) := by
  refine ev_step ?_
  simp only [impl_TreeSame.f, impl_TreeSame.b, List.length_map]
  unfold treeSame byAll
  refine ev_ite (fun c => ev_some ?_) (fun c => ?_)
  · have : ¬ a.length = b.length := fun e => c (len_eq.2 e)
    simp [this]
  · have hab : a.length = b.length := len_eq.1 (by simpa using c)
    simp only [hab, decide_true, Bool.true_and]
    rw [← hab]
    refine ev_allp (fun k i => impl_TreeSame.l0 k y (a.map By.t) z (b.map By.t) (a.length : Int) i) a.length _ (fun n hn hp r hr => ?_) (fun n hn hp => ?_) ?_ a.length 0 (by omega)
    · have hb : n < b.length := by omega
      rw [getD_in hn, getD_in hb] at hp
      refine ev_step ?_
      simp only [impl_TreeSame.l0, impl_TreeSame.l0b, List.length_map, Int.toNat_natCast, by_at hn, by_at hb, By.c0, By.c0z, succ_nat n (by omega)]
      exact ev_pos (by omega) (ev_pos (by omega) (ev_pos (by omega) (ev_pos (by omega) (ev_pos (by omega) (Ev.bind (impl_SameBytes.ev _ _ _ _) (ev_neg (by simp [hp]) hr))))))
    · have hb : n < b.length := by omega
      rw [getD_in hn, getD_in hb] at hp
      refine ev_step ?_
      simp only [impl_TreeSame.l0, impl_TreeSame.l0b, List.length_map, Int.toNat_natCast, by_at hn, by_at hb, By.c0, By.c0z, succ_nat n (by omega)]
      exact ev_pos (by omega) (ev_pos (by omega) (ev_pos (by omega) (ev_pos (by omega) (ev_pos (by omega) (Ev.bind (impl_SameBytes.ev _ _ _ _) (ev_pos (by simp [hp]) (ev_some rfl)))))))
    · refine ev_step ?_
      simp only [impl_TreeSame.l0, impl_TreeSame.l0b, List.length_map]
      exact ev_neg (by omega) (ev_some rfl)
theorem spec_TreeSame.ev (y z : Bool) (a b : List By) (ha : a.length ≤ 1048576) : Ev (fun k => spec_TreeSame.f k y (a.map By.t) z (b.map By.t)) (treeSame a b) := by
  refine ev_step ?_
  simp only [spec_TreeSame.f, spec_TreeSame.b, List.length_map]
  unfold treeSame byAll
  refine ev_ite (fun c => ev_some ?_) (fun c => ?_)
  · have : ¬ a.length = b.length := fun e => c (len_eq.2 e)
    simp [this]
  · have hab : a.length = b.length := len_eq.1 (by simpa using c)
    simp only [hab, decide_true, Bool.true_and]
    rw [← hab]
    refine ev_allp (fun k i => spec_TreeSame.l0 k y (a.map By.t) z (b.map By.t) (a.length : Int) i) a.length _ (fun n hn hp r hr => ?_) (fun n hn hp => ?_) ?_ a.length 0 (by omega)
    · have hb : n < b.length := by omega
      rw [getD_in hn, getD_in hb] at hp
      refine ev_step ?_
      simp only [spec_TreeSame.l0, spec_TreeSame.l0b, List.length_map, Int.toNat_natCast, by_at hn, by_at hb, By.c0, By.c0z, succ_nat n (by omega)]
      exact ev_pos (by omega) (ev_pos (by omega) (ev_pos (by omega) (ev_pos (by omega) (ev_pos (by omega) (Ev.bind (spec_SameBytes.ev _ _ _ _) (ev_neg (by simp [hp]) hr))))))
    · have hb : n < b.length := by omega
      rw [getD_in hn, getD_in hb] at hp
      refine ev_step ?_
      simp only [spec_TreeSame.l0, spec_TreeSame.l0b, List.length_map, Int.toNat_natCast, by_at hn, by_at hb, By.c0, By.c0z, succ_nat n (by omega)]
      exact ev_pos (by omega) (ev_pos (by omega) (ev_pos (by omega) (ev_pos (by omega) (ev_pos (by omega) (Ev.bind (spec_SameBytes.ev _ _ _ _) (ev_pos (by simp [hp]) (ev_some rfl)))))))
    · refine ev_step ?_
      simp only [spec_TreeSame.l0, spec_TreeSame.l0b, List.length_map]
      exact ev_neg (by omega) (ev_some rfl)
def rowSame (x y : Row) : Bool := decide (x.f0 = y.f0) && sameB x.f1 y.f1
def tableSame (a b : List Row) : Bool := decide (a.length = b.length) && allFrom (fun n => rowSame (a.getD n default) (b.getD n default)) 0 a.length
theorem impl_TableSame.ev (y z : Bool) (a b : List Row) (ha : a.length ≤ 1048576) : Ev (fun k => impl_TableSame.f k y (a.map Row.t) z (b.map Row.t)) (tableSame a b) := by
  refine ev_step ?_
  simp only [impl_TableSame.f, impl_TableSame.b, List.length_map]
  unfold tableSame
  refine ev_ite (fun c => ev_some ?_) (fun c => ?_)
  · have : ¬ a.length = b.length := fun e => c (len_eq.2 e)
    simp [this]
  · have hab : a.length = b.length := len_eq.1 (by simpa using c)
    simp only [hab, decide_true, Bool.true_and]
    rw [← hab]
    refine ev_allp (fun k i => impl_TableSame.l0 k (a.length : Int) i y (a.map Row.t) z (b.map Row.t)) a.length _ (fun n hn hp r hr => ?_) (fun n hn hp => ?_) ?_ a.length 0 (by omega)
    · have hb : n < b.length := by omega
      rw [getD_in hn, getD_in hb] at hp
      simp only [rowSame, Bool.and_eq_true, decide_eq_true_eq] at hp
      refine ev_step ?_
      simp only [impl_TableSame.l0, impl_TableSame.l0b, List.length_map, Int.toNat_natCast, row_at hn, row_at hb, Row.c0, Row.c1, Row.c1z, succ_nat n (by omega)]
      exact ev_pos (by omega) (ev_pos (by omega) (ev_pos (by omega) (ev_pos (by omega) (ev_pos (by omega) (ev_neg (by simp [hp.1]) (ev_pos (by omega) (ev_pos (by omega) (ev_pos (by omega) (ev_pos (by omega) (Ev.bind (impl_SameBytes.ev _ _ _ _) (ev_neg (by simp [hp.2]) hr)))))))))))
    · have hb : n < b.length := by omega
      rw [getD_in hn, getD_in hb] at hp
      refine ev_step ?_
      simp only [impl_TableSame.l0, impl_TableSame.l0b, List.length_map, Int.toNat_natCast, row_at hn, row_at hb, Row.c0, Row.c1, Row.c1z, succ_nat n (by omega)]
      refine ev_pos (by omega) (ev_pos (by omega) (ev_pos (by omega) (ev_pos (by omega) (ev_pos (by omega) (ev_ite (fun _ => ev_some rfl) fun c0 => ev_pos (by omega) (ev_pos (by omega) (ev_pos (by omega) (ev_pos (by omega) (Ev.bind (impl_SameBytes.ev _ _ _ _) (ev_pos ?_ (ev_some rfl))))))))))) 
      have c1 : (a[n]).f0 = (b[n]).f0 := by simpa using c0
      simpa [rowSame, c1] using hp
    · refine ev_step ?_
      simp only [impl_TableSame.l0, impl_TableSame.l0b, List.length_map]
      exact ev_neg (by omega) (ev_some rfl)
theorem spec_TableSame.ev (y z : Bool) (a b : List Row) (ha : a.length ≤ 1048576) : Ev (fun k => spec_TableSame.f k y (a.map Row.t) z (b.map Row.t)) (tableSame a b) := by
  refine ev_step ?_
  simp only [spec_TableSame.f, spec_TableSame.b, List.length_map]
  unfold tableSame
  refine ev_ite (fun c => ev_some ?_) (fun c => ?_)
  · have : ¬ a.length = b.length := fun e => c (len_eq.2 e)
    simp [this]
  · have hab : a.length = b.length := len_eq.1 (by simpa using c)
    simp only [hab, decide_true, Bool.true_and]
    rw [← hab]
    refine ev_allp (fun k i => spec_TableSame.l0 k y (a.map Row.t) (a.length : Int) i z (b.map Row.t)) a.length _ (fun n hn hp r hr => ?_) (fun n hn hp => ?_) ?_ a.length 0 (by omega)
    · have hb : n < b.length := by omega
      rw [getD_in hn, getD_in hb] at hp
      simp only [rowSame, Bool.and_eq_true, decide_eq_true_eq] at hp
      refine ev_step ?_
      simp only [spec_TableSame.l0, spec_TableSame.l0b, List.length_map, Int.toNat_natCast, row_at hn, row_at hb, Row.c0, Row.c1, Row.c1z, succ_nat n (by omega)]
      exact ev_pos (by omega) (ev_pos (by omega) (ev_pos (by omega) (ev_pos (by omega) (ev_pos (by omega) (ev_neg (by simp [hp.1]) (ev_pos (by omega) (ev_pos (by omega) (Ev.bind (spec_SameBytes.ev _ _ _ _) (ev_neg (by simp [hp.2]) hr)))))))))
    · have hb : n < b.length := by omega
      rw [getD_in hn, getD_in hb] at hp
      refine ev_step ?_
      simp only [spec_TableSame.l0, spec_TableSame.l0b, List.length_map, Int.toNat_natCast, row_at hn, row_at hb, Row.c0, Row.c1, Row.c1z, succ_nat n (by omega)]
      refine ev_pos (by omega) (ev_pos (by omega) (ev_pos (by omega) (ev_pos (by omega) (ev_pos (by omega) (ev_ite (fun _ => ev_some rfl) fun c0 => ev_pos (by omega) (ev_pos (by omega) (Ev.bind (spec_SameBytes.ev _ _ _ _) (ev_pos ?_ (ev_some rfl))))))))) 
      have c1 : (a[n]).f0 = (b[n]).f0 := by simpa using c0
      simpa [rowSame, c1] using hp
    · refine ev_step ?_
      simp only [spec_TableSame.l0, spec_TableSame.l0b, List.length_map]
      exact ev_neg (by omega) (ev_some rfl)

/-! certificates and headers -/
structure QcV where
  v : Int
  h : Int
  bz : Bool
  blk : List Int
  mz : Bool
  bits : List Int
  tz : Bool
  tags : List By
structure Head where
  v : Int
  h : Int
  p : Int
  az : Bool
  par : List Int
  rz : Bool
  root : List Int
  q : QcV
instance : Inhabited Head := ⟨⟨0, 0, 0, false, [], false, [], ⟨0, 0, false, [], false, [], false, []⟩⟩⟩
def Head.t (x : Head) : T := .agg [.int .i64 x.v, .int .i64 x.h, .int .i64 x.p, .nums 5 .u8 x.az x.par, .nums 5 .u8 x.rz x.root, .int .i64 x.q.v, .int .i64 x.q.h, .nums 5 .u8 x.q.bz x.q.blk, .nums 5 .u8 x.q.mz x.q.bits, .sl 25 x.q.tz (x.q.tags.map By.t)]
theorem head_at {l : List Head} {i : Nat} (h : i < l.length) : (l.map Head.t).getD i .bad = (l[i]).t := by simp [List.getD_eq_getElem?_getD, h]
section
variable (x : Head)
theorem Head.c0 : (x.t.cells.getD 0 .bad).toInt = x.v := rfl
theorem Head.c1 : (x.t.cells.getD 1 .bad).toInt = x.h := rfl
theorem Head.c2 : (x.t.cells.getD 2 .bad).toInt = x.p := rfl
theorem Head.c3z : (x.t.cells.getD 3 .bad).isNil = x.az := rfl
theorem Head.c3 : (x.t.cells.getD 3 .bad).toNums = x.par := rfl
theorem Head.c4z : (x.t.cells.getD 4 .bad).isNil = x.rz := rfl
theorem Head.c4 : (x.t.cells.getD 4 .bad).toNums = x.root := rfl
theorem Head.c5 : (x.t.cells.getD 5 .bad).toInt = x.q.v := rfl
theorem Head.c6 : (x.t.cells.getD 6 .bad).toInt = x.q.h := rfl
theorem Head.c7z : (x.t.cells.getD 7 .bad).isNil = x.q.bz := rfl
theorem Head.c7 : (x.t.cells.getD 7 .bad).toNums = x.q.blk := rfl
theorem Head.c8z : (x.t.cells.getD 8 .bad).isNil = x.q.mz := rfl
theorem Head.c8 : (x.t.cells.getD 8 .bad).toNums = x.q.bits := rfl
theorem Head.c9z : (x.t.cells.getD 9 .bad).isNil = x.q.tz := rfl
theorem Head.c9 : (x.t.cells.getD 9 .bad).toList = x.q.tags.map By.t := rfl
end
def QcV.cp (q : QcV) : QcV := ⟨q.v, q.h, false, q.blk, false, q.bits, false, q.tags.map By.cp⟩
def Head.cp (x : Head) : Head := ⟨x.v, x.h, x.p, false, x.par, false, x.root, x.q.cp⟩
def QcV.fit (q : QcV) : Prop := q.blk.length ≤ 9223372036854775807 ∧ q.bits.length ≤ 9223372036854775807 ∧ FitB q.tags
def QcV.few (q : QcV) : Prop := okB q.blk ∧ okB q.bits ∧ FewB q.tags
def Head.fit (x : Head) : Prop := x.par.length ≤ 9223372036854775807 ∧ x.root.length ≤ 9223372036854775807 ∧ x.q.fit
def Head.few (x : Head) : Prop := okB x.par ∧ okB x.root ∧ x.q.few
theorem Head.few_cp {x : Head} (h : x.few) : x.cp.few := ⟨h.1, h.2.1, h.2.2.1, h.2.2.2.1, fewB_cp h.2.2.2.2⟩
theorem laws_szQc.ev (q : QcV) (h : q.fit) (a : Int) (h0 : 0 ≤ a) (h1 : a ≤ 1048576) : ∃ r, Ev (fun k => laws_szQc.f k q.v q.h q.bz q.blk q.mz q.bits q.tz (q.tags.map By.t) a) r ∧ SzR q.few a r := by
  obtain ⟨r, e, s⟩ := laws_szByteS.ev q.bz q.blk h.1 a h0 h1
  rcases s with rfl | ⟨s1, s2, s3⟩
  · refine ⟨-1, ev_step ?_, Or.inl rfl⟩
    simp only [laws_szQc.f, laws_szQc.b]
    exact Ev.bind e (ev_pos (by omega) (ev_some rfl))
  obtain ⟨p, e2, s⟩ := laws_szByteS.ev q.mz q.bits h.2.1 r s1 (by omega)
  rcases s with rfl | ⟨t1, t2, t3⟩
  · refine ⟨-1, ev_step ?_, Or.inl rfl⟩
    simp only [laws_szQc.f, laws_szQc.b]
    exact Ev.bind e (ev_neg (by omega) (Ev.bind e2 (ev_pos (by omega) (ev_some rfl))))
  obtain ⟨o, e3, s⟩ := laws_szByteSS.ev q.tz q.tags h.2.2 p t1 (by omega)
  rcases s with rfl | ⟨u1, u2, u3⟩
  · refine ⟨-1, ev_step ?_, Or.inl rfl⟩
    simp only [laws_szQc.f, laws_szQc.b]
    exact Ev.bind e (ev_neg (by omega) (Ev.bind e2 (ev_neg (by omega) (Ev.bind e3 (ev_pos (by omega) (ev_some rfl))))))
  · refine ⟨o, ev_step ?_, Or.inr ⟨u1, by omega, s3, t3, u3⟩⟩
    simp only [laws_szQc.f, laws_szQc.b]
    exact Ev.bind e (ev_neg (by omega) (Ev.bind e2 (ev_neg (by omega) (Ev.bind e3 (ev_neg (by omega) (ev_some rfl))))))
theorem laws_szHead.ev (x : Head) (h : x.fit) (a : Int) (h0 : 0 ≤ a) (h1 : a ≤ 1048576) : ∃ r, Ev (fun k => laws_szHead.f k x.v x.h x.p x.az x.par x.rz x.root x.q.v x.q.h x.q.bz x.q.blk x.q.mz x.q.bits x.q.tz (x.q.tags.map By.t) a) r ∧ SzR x.few a r := by
  obtain ⟨r, e, s⟩ := laws_szByteS.ev x.az x.par h.1 a h0 h1
  rcases s with rfl | ⟨s1, s2, s3⟩
  · refine ⟨-1, ev_step ?_, Or.inl rfl⟩
    simp only [laws_szHead.f, laws_szHead.b]
    exact Ev.bind e (ev_pos (by omega) (ev_some rfl))
  obtain ⟨p, e2, s⟩ := laws_szByteS.ev x.rz x.root h.2.1 r s1 (by omega)
  rcases s with rfl | ⟨t1, t2, t3⟩
  · refine ⟨-1, ev_step ?_, Or.inl rfl⟩
    simp only [laws_szHead.f, laws_szHead.b]
    exact Ev.bind e (ev_neg (by omega) (Ev.bind e2 (ev_pos (by omega) (ev_some rfl))))
  obtain ⟨o, e3, s⟩ := laws_szQc.ev x.q h.2.2 p t1 (by omega)
  rcases s with rfl | ⟨u1, u2, u3⟩
  · refine ⟨-1, ev_step ?_, Or.inl rfl⟩
    simp only [laws_szHead.f, laws_szHead.b]
    exact Ev.bind e (ev_neg (by omega) (Ev.bind e2 (ev_neg (by omega) (Ev.bind e3 (ev_pos (by omega) (ev_some rfl))))))
  · refine ⟨o, ev_step ?_, Or.inr ⟨u1, by omega, s3, t3, u3⟩⟩
    simp only [laws_szHead.f, laws_szHead.b]
    exact Ev.bind e (ev_neg (by omega) (Ev.bind e2 (ev_neg (by omega) (Ev.bind e3 (ev_neg (by omega) (ev_some rfl))))))
def FitH (l : List Head) : Prop := l.length ≤ 9223372036854775807 ∧ ∀ x ∈ l, x.fit
def FewH (l : List Head) : Prop := l.length ≤ 1048576 ∧ ∀ x ∈ l, x.few
theorem fewH_cp {l : List Head} (h : FewH l) : FewH (l.map Head.cp) := ⟨by simpa using h.1, fun r hr => by
  obtain ⟨x, hx, rfl⟩ := List.mem_map.1 hr
  exact Head.few_cp (h.2 x hx)⟩
theorem laws_szHeadS.ev0 (z : Bool) (l : List Head) (hl : l.length ≤ 1048576) (h : ∀ b ∈ l, b.fit) : ∀ (d n : Nat) (a : Int), n + d = l.length → 0 ≤ a → a ≤ 1048576 → ∃ q, Ev (fun k => laws_szHeadS.l0 k z (l.map Head.t) a (n : Int)) q ∧ SzR (∀ r ∈ l.drop n, r.few) a q
  | 0, n, a, hn, h0, h1 => by
    refine ⟨a, ev_step ?_, Or.inr ⟨h0, by omega, fun r hr => ?_⟩⟩
    · simp only [laws_szHeadS.l0, laws_szHeadS.l0b, List.length_map]
      exact ev_neg (by omega) (ev_some rfl)
    · rw [List.drop_of_length_le (by omega)] at hr; cases hr
  | d + 1, n, a, hn, h0, h1 => by
    have hlt : n < l.length := by omega
    obtain ⟨q, e, s⟩ := laws_szHead.ev l[n] (h _ (List.getElem_mem hlt)) a h0 h1
    rcases s with rfl | ⟨s1, s2, s3⟩
    · refine ⟨-1, ev_step ?_, Or.inl rfl⟩
      simp only [laws_szHeadS.l0, laws_szHeadS.l0b, List.length_map, Int.toNat_natCast, head_at hlt, Head.c0, Head.c1, Head.c2, Head.c3z, Head.c3, Head.c4z, Head.c4, Head.c5, Head.c6, Head.c7z, Head.c7, Head.c8z, Head.c8, Head.c9z, Head.c9]
      exact ev_pos (by omega) (ev_pos (by omega) (ev_pos (by omega) (Ev.bind e (ev_pos (by omega) (ev_some rfl)))))
    · obtain ⟨p, e2, s'⟩ := laws_szHeadS.ev0 z l hl h d (n + 1) q (by omega) s1 (by omega)
      refine ⟨p, ev_step ?_, ?_⟩
      · simp only [laws_szHeadS.l0, laws_szHeadS.l0b, List.length_map, Int.toNat_natCast, head_at hlt, Head.c0, Head.c1, Head.c2, Head.c3z, Head.c3, Head.c4z, Head.c4, Head.c5, Head.c6, Head.c7z, Head.c7, Head.c8z, Head.c8, Head.c9z, Head.c9, succ_nat n (by omega)]
        exact ev_pos (by omega) (ev_pos (by omega) (ev_pos (by omega) (Ev.bind e (ev_neg (by omega) e2))))
      · rcases s' with rfl | ⟨t1, t2, t3⟩
        · exact Or.inl rfl
        · refine Or.inr ⟨t1, by omega, fun r hr => ?_⟩
          rw [List.drop_eq_getElem_cons hlt] at hr
          rcases List.mem_cons.1 hr with rfl | hr
          · exact s3
          · exact t3 r hr
theorem laws_szHeadS.ev (z : Bool) (l : List Head) (h : FitH l) (a : Int) (h0 : 0 ≤ a) (h1 : a ≤ 1048576) : ∃ q, Ev (fun k => laws_szHeadS.f k z (l.map Head.t) a) q ∧ SzR (FewH l) a q := by
  have hl := h.1
  have e : wrap64 (a - (l.length : Int)) = a - (l.length : Int) := w64 (by omega) (by omega)
  by_cases c : (l.length : Int) ≤ a
  · obtain ⟨q, e2, s⟩ := laws_szHeadS.ev0 z l (by clear e; omega) h.2 l.length 0 (a - l.length) (by omega) (by clear e; omega) (by clear e; omega)
    refine ⟨q, ev_step ?_, ?_⟩
    · simp only [laws_szHeadS.f, laws_szHeadS.b, List.length_map, e]
      clear e
      exact ev_neg (by omega) e2
    · clear e
      rcases s with rfl | ⟨t1, t2, t3⟩
      · exact Or.inl rfl
      · exact Or.inr ⟨t1, by omega, by omega, t3⟩
  · refine ⟨-1, ev_step ?_, Or.inl rfl⟩
    simp only [laws_szHeadS.f, laws_szHeadS.b, List.length_map, e]
    clear e
    exact ev_pos (by omega) (ev_some rfl)
theorem laws_toQc.ev (q : QcV) (h : q.few) : Ev (fun k => laws_toQc.f k q.v q.h q.bz q.blk q.mz q.bits q.tz (q.tags.map By.t)) (q.v, q.h, false, q.blk, false, q.bits, false, (q.tags.map By.cp).map By.t) := by
  refine ev_step ?_
  simp only [laws_toQc.f, laws_toQc.b]
  exact Ev.bind (laws_toByteS.ev _ _ h.1) (Ev.bind (laws_toByteS.ev _ _ h.2.1) (Ev.bind (laws_toByteSS.ev _ _ h.2.2) (ev_some rfl)))
theorem laws_toHead.ev (x : Head) (h : x.few) : Ev (fun k => laws_toHead.f k x.v x.h x.p x.az x.par x.rz x.root x.q.v x.q.h x.q.bz x.q.blk x.q.mz x.q.bits x.q.tz (x.q.tags.map By.t)) (x.v, x.h, x.p, false, x.par, false, x.root, x.q.v, x.q.h, false, x.q.blk, false, x.q.bits, false, (x.q.tags.map By.cp).map By.t) := by
  refine ev_step ?_
  simp only [laws_toHead.f, laws_toHead.b]
  exact Ev.bind (laws_toByteS.ev _ _ h.1) (Ev.bind (laws_toByteS.ev _ _ h.2.1) (Ev.bind (laws_toQc.ev _ h.2.2) (ev_some rfl)))
theorem laws_toHeadS.ev (z : Bool) (l : List Head) (h : FewH l) : Ev (fun k => laws_toHeadS.f k z (l.map Head.t)) (false, (l.map Head.cp).map Head.t) := by
  have hl : l.length ≤ 1048576 := h.1
  refine ev_step ?_
  simp only [laws_toHeadS.f, laws_toHeadS.b, List.length_map]
  refine ev_pos trivial (ev_pos (by omega) (ev_pos (by omega) ?_))
  have key : ∀ (d n : Nat) (ys : List T), n + d = l.length → ys.length = l.length → ys.take n = ((l.map Head.cp).map Head.t).take n → Ev (fun k => laws_toHeadS.l0 k z (l.map Head.t) ys (n : Int)) (false, (l.map Head.cp).map Head.t) := by
    intro d
    induction d with
    | zero =>
      intro n ys hn hy ht
      refine ev_step ?_
      simp only [laws_toHeadS.l0, laws_toHeadS.l0b, List.length_map]
      refine ev_neg (by omega) (ev_some ?_)
      rw [List.take_of_length_le (by omega), List.take_of_length_le (by simp; omega)] at ht
      rw [ht]
    | succ d ih =>
      intro n ys hn hy ht
      have hlt : n < l.length := by omega
      refine ev_step ?_
      have i2 := ih (n + 1) (ys.set n (l[n].cp).t) (by omega) (by simp [hy]) (by
        rw [List.take_succ_eq_append_getElem (by simp; omega), List.take_succ_eq_append_getElem (by simp; omega), List.take_set_of_le (Nat.le_refl n), ht, List.getElem_set_self]
        simp)
      simp only [laws_toHeadS.l0, laws_toHeadS.l0b, List.length_map, succ_nat n (by omega), Int.toNat_natCast, head_at hlt, Head.c0, Head.c1, Head.c2, Head.c3z, Head.c3, Head.c4z, Head.c4, Head.c5, Head.c6, Head.c7z, Head.c7, Head.c8z, Head.c8, Head.c9z, Head.c9]
      exact ev_pos (by omega) (ev_pos (by omega) (ev_pos (by omega) (Ev.bind (laws_toHead.ev l[n] (h.2 _ (List.getElem_mem hlt))) (ev_pos (by omega) (ev_pos (by omega) i2)))))
  exact key l.length 0 _ (by omega) (by simp) (by simp)
theorem laws_eqQc.ev (q : QcV) (h : q.few) : Ev (fun k => laws_eqQc.f k q.v q.h q.bz q.blk q.mz q.bits q.tz (q.tags.map By.t) q.v q.h q.bz q.blk q.mz q.bits q.tz (q.tags.map By.t)) true := by
  refine ev_step ?_
  simp only [laws_eqQc.f, laws_eqQc.b]
  exact ev_neg (by simp) (ev_neg (by simp) (Ev.bind (laws_eqByteS.ev _ _ _ h.1) (ev_neg (by simp) (Ev.bind (laws_eqByteS.ev _ _ _ h.2.1) (ev_neg (by simp) (Ev.bind (laws_eqByteSS.ev _ _ _ h.2.2) (ev_neg (by simp) (ev_some rfl))))))))
theorem laws_eqHead.ev (x : Head) (h : x.few) : Ev (fun k => laws_eqHead.f k x.v x.h x.p x.az x.par x.rz x.root x.q.v x.q.h x.q.bz x.q.blk x.q.mz x.q.bits x.q.tz (x.q.tags.map By.t) x.v x.h x.p x.az x.par x.rz x.root x.q.v x.q.h x.q.bz x.q.blk x.q.mz x.q.bits x.q.tz (x.q.tags.map By.t)) true := by
  refine ev_step ?_
  simp only [laws_eqHead.f, laws_eqHead.b]
  exact ev_neg (by simp) (ev_neg (by simp) (ev_neg (by simp) (Ev.bind (laws_eqByteS.ev _ _ _ h.1) (ev_neg (by simp) (Ev.bind (laws_eqByteS.ev _ _ _ h.2.1) (ev_neg (by simp) (Ev.bind (laws_eqQc.ev _ h.2.2) (ev_neg (by simp) (ev_some rfl)))))))))
theorem laws_eqHeadS.ev (y z : Bool) (l : List Head) (h : FewH l) : Ev (fun k => laws_eqHeadS.f k y (l.map Head.t) z (l.map Head.t)) true := by
  have hl : l.length ≤ 1048576 := h.1
  refine ev_step ?_
  simp only [laws_eqHeadS.f, laws_eqHeadS.b]
  refine ev_neg (by simp) ?_
  have key : ∀ (d n : Nat), n + d = l.length → Ev (fun k => laws_eqHeadS.l0 k y (l.map Head.t) z (l.map Head.t) (n : Int)) true := by
    intro d
    induction d with
    | zero =>
      intro n hn
      refine ev_step ?_
      simp only [laws_eqHeadS.l0, laws_eqHeadS.l0b, List.length_map]
      exact ev_neg (by omega) (ev_some rfl)
    | succ d ih =>
      intro n hn
      have hlt : n < l.length := by omega
      refine ev_step ?_
      simp only [laws_eqHeadS.l0, laws_eqHeadS.l0b, List.length_map, Int.toNat_natCast, head_at hlt, Head.c0, Head.c1, Head.c2, Head.c3z, Head.c3, Head.c4z, Head.c4, Head.c5, Head.c6, Head.c7z, Head.c7, Head.c8z, Head.c8, Head.c9z, Head.c9, succ_nat n (by omega)]
      exact ev_pos (by omega) (ev_pos (by omega) (ev_pos (by omega) (ev_pos (by omega) (ev_pos (by omega) (Ev.bind (laws_eqHead.ev _ (h.2 _ (List.getElem_mem hlt))) (ev_neg (by simp) (ih (n + 1) (by omega))))))))
  exact key l.length 0 (by omega)
end Go.Proofs.YtgmloaobmddmaaaG
namespace Go.Proofs.YtgmloaobmddmaaaG
open Go Go.Proofs.YtgmloaobmddmaaaRv Go.RowKit
set_option linter.unusedVariables false
set_option linter.unusedSimpArgs false

def qcSame (a b : QcV) : Bool := decide (a.v = b.v) && (decide (a.h = b.h) && (sameB a.blk b.blk && (sameB a.bits b.bits && treeSame a.tags b.tags)))
def headSame (a b : Head) : Bool := decide (a.v = b.v) && (decide (a.h = b.h) && (decide (a.p = b.p) && (sameB a.par b.par && (sameB a.root b.root && qcSame a.q b.q))))
def headsSame (a b : List Head) : Bool := decide (a.length = b.length) && allFrom (fun n => headSame (a.getD n default) (b.getD n default)) 0 a.length
theorem impl_QcSame.ev (a b : QcV) (ha : a.few) : Ev (fun k => impl_QcSame.f k a.v a.h a.bz a.blk a.mz a.bits a.tz (a.tags.map By.t) b.v b.h b.bz b.blk b.mz b.bits b.tz (b.tags.map By.t)) (qcSame a b) := by
  refine ev_step ?_
  simp only [impl_QcSame.f, impl_QcSame.b]
  unfold qcSame
  refine ev_ite (fun c1 => ev_ite (fun c2 => Ev.bind (impl_SameBytes.ev _ _ _ _) (ev_ite (fun c3 => Ev.bind (impl_SameBytes.ev _ _ _ _) (ev_ite (fun c4 => Ev.bind (impl_TreeSame.ev _ _ _ _ ha.2.2.1) (ev_some ?_)) fun c4 => ev_some ?_)) fun c3 => ev_some ?_)) fun c2 => ev_some ?_) fun c1 => ev_some ?_
  all_goals simp_all
theorem impl_HeadSame.ev (a b : Head) (ha : a.few) : Ev (fun k => impl_HeadSame.f k a.v a.h a.p a.az a.par a.rz a.root a.q.v a.q.h a.q.bz a.q.blk a.q.mz a.q.bits a.q.tz (a.q.tags.map By.t) b.v b.h b.p b.az b.par b.rz b.root b.q.v b.q.h b.q.bz b.q.blk b.q.mz b.q.bits b.q.tz (b.q.tags.map By.t)) (headSame a b) := by
  refine ev_step ?_
  simp only [impl_HeadSame.f, impl_HeadSame.b]
  unfold headSame
  refine ev_ite (fun c1 => ev_ite (fun c2 => ev_ite (fun c5 => Ev.bind (impl_SameBytes.ev _ _ _ _) (ev_ite (fun c3 => Ev.bind (impl_SameBytes.ev _ _ _ _) (ev_ite (fun c4 => Ev.bind (impl_QcSame.ev _ _ ha.2.2) (ev_some ?_)) fun c4 => ev_some ?_)) fun c3 => ev_some ?_)) fun c5 => ev_some ?_) fun c2 => ev_some ?_) fun c1 => ev_some ?_
  all_goals simp_all
theorem spec_QcSame.ev (a b : QcV) (ha : a.few) : Ev (fun k => spec_QcSame.f k a.v a.h a.bz a.blk a.mz a.bits a.tz (a.tags.map By.t) b.v b.h b.bz b.blk b.mz b.bits b.tz (b.tags.map By.t)) (qcSame a b) := by
  refine ev_step ?_
  simp only [spec_QcSame.f, spec_QcSame.b]
  unfold qcSame
  refine ev_ite (fun c1 => ev_ite (fun c2 => Ev.bind (spec_SameBytes.ev _ _ _ _) (ev_ite (fun c3 => Ev.bind (spec_SameBytes.ev _ _ _ _) (ev_ite (fun c4 => Ev.bind (spec_TreeSame.ev _ _ _ _ ha.2.2.1) (ev_some ?_)) fun c4 => ev_some ?_)) fun c3 => ev_some ?_)) fun c2 => ev_some ?_) fun c1 => ev_some ?_
  all_goals simp_all
theorem spec_HeadSame.ev (a b : Head) (ha : a.few) : Ev (fun k => spec_HeadSame.f k a.v a.h a.p a.az a.par a.rz a.root a.q.v a.q.h a.q.bz a.q.blk a.q.mz a.q.bits a.q.tz (a.q.tags.map By.t) b.v b.h b.p b.az b.par b.rz b.root b.q.v b.q.h b.q.bz b.q.blk b.q.mz b.q.bits b.q.tz (b.q.tags.map By.t)) (headSame a b) := by
  refine ev_step ?_
  simp only [spec_HeadSame.f, spec_HeadSame.b]
  unfold headSame
  refine ev_ite (fun c1 => ev_ite (fun c2 => ev_ite (fun c5 => Ev.bind (spec_SameBytes.ev _ _ _ _) (ev_ite (fun c3 => Ev.bind (spec_SameBytes.ev _ _ _ _) (ev_ite (fun c4 => Ev.bind (spec_QcSame.ev _ _ ha.2.2) (ev_some ?_)) fun c4 => ev_some ?_)) fun c3 => ev_some ?_)) fun c5 => ev_some ?_) fun c2 => ev_some ?_) fun c1 => ev_some ?_
  all_goals simp_all
theorem impl_headsSame.ev (y z : Bool) (a b : List Head) (ha : FewH a) : Ev (fun k => impl_headsSame.f k y (a.map Head.t) z (b.map Head.t)) (headsSame a b) := by
  have ha1 := ha.1
  refine ev_step ?_
  simp only [impl_headsSame.f, impl_headsSame.b, List.length_map]
  unfold headsSame
  refine ev_ite (fun c => ev_some ?_) (fun c => ?_)
  · have : ¬ a.length = b.length := fun e => c (len_eq.2 e)
    simp [this]
  · have hab : a.length = b.length := len_eq.1 (by simpa using c)
    simp only [hab, decide_true, Bool.true_and]
    rw [← hab]
    refine ev_allp (fun k i => impl_headsSame.l0 k y (a.map Head.t) z (b.map Head.t) (a.length : Int) i) a.length _ (fun n hn hp r hr => ?_) (fun n hn hp => ?_) ?_ a.length 0 (by omega)
    · have hb : n < b.length := by omega
      rw [getD_in hn, getD_in hb] at hp
      refine ev_step ?_
      simp only [impl_headsSame.l0, impl_headsSame.l0b, List.length_map, Int.toNat_natCast, head_at hn, head_at hb, Head.c0, Head.c1, Head.c2, Head.c3z, Head.c3, Head.c4z, Head.c4, Head.c5, Head.c6, Head.c7z, Head.c7, Head.c8z, Head.c8, Head.c9z, Head.c9, succ_nat n (by omega)]
      exact ev_pos (by omega) (ev_pos (by omega) (ev_pos (by omega) (ev_pos (by omega) (ev_pos (by omega) (Ev.bind (impl_HeadSame.ev _ _ (ha.2 _ (List.getElem_mem hn))) (ev_neg (by simp [hp]) hr))))))
    · have hb : n < b.length := by omega
      rw [getD_in hn, getD_in hb] at hp
      refine ev_step ?_
      simp only [impl_headsSame.l0, impl_headsSame.l0b, List.length_map, Int.toNat_natCast, head_at hn, head_at hb, Head.c0, Head.c1, Head.c2, Head.c3z, Head.c3, Head.c4z, Head.c4, Head.c5, Head.c6, Head.c7z, Head.c7, Head.c8z, Head.c8, Head.c9z, Head.c9, succ_nat n (by omega)]
      exact ev_pos (by omega) (ev_pos (by omega) (ev_pos (by omega) (ev_pos (by omega) (ev_pos (by omega) (Ev.bind (impl_HeadSame.ev _ _ (ha.2 _ (List.getElem_mem hn))) (ev_pos (by simp [hp]) (ev_some rfl)))))))
    · refine ev_step ?_
      simp only [impl_headsSame.l0, impl_headsSame.l0b, List.length_map]
      exact ev_neg (by omega) (ev_some rfl)

/-! light clients -/
structure Light where
  l0 : Int
  l1 : Int
  l2 : Int
  l3 : Int
  l4 : Int
  rz : Bool
  rows : List Row
  skip : Int
  bz : Bool
  buf : List Int
  cz : Bool
  chain : List Head
def Light.cp (x : Light) : Light := ⟨x.l0, x.l1, x.l2, x.l3, x.l4, false, x.rows.map Row.cp, x.skip, false, x.buf, false, x.chain.map Head.cp⟩
def Light.fit (x : Light) : Prop := Fit x.rows ∧ x.buf.length ≤ 9223372036854775807 ∧ FitH x.chain
def Light.few (x : Light) : Prop := Few x.rows ∧ okB x.buf ∧ FewH x.chain
theorem Light.fewCp {x : Light} (h : x.few) : x.cp.few := ⟨few_cp h.1, h.2.1, fewH_cp h.2.2⟩
def limSame (a b : Light) : Bool := (decide (a.l0 = b.l0) && (decide (a.l1 = b.l1) && (decide (a.l2 = b.l2) && (decide (a.l3 = b.l3) && (decide (a.l4 = b.l4) && true)))))
def lightSame (a b : Light) : Bool := limSame a b && (tableSame a.rows b.rows && (decide (a.skip = b.skip) && (sameB a.buf b.buf && headsSame a.chain b.chain)))
theorem impl_LightSame.ev (a b : Light) (ha : a.few) : Ev (fun k => impl_LightSame.f k a.l0 a.l1 a.l2 a.l3 a.l4 a.rz (a.rows.map Row.t) a.skip a.bz a.buf a.cz (a.chain.map Head.t) b.l0 b.l1 b.l2 b.l3 b.l4 b.rz (b.rows.map Row.t) b.skip b.bz b.buf b.cz (b.chain.map Head.t)) (lightSame a b) := by
  refine ev_step ?_
  simp only [impl_LightSame.f, impl_LightSame.b]
  unfold lightSame
  refine ev_ite (fun c1 => Ev.bind (impl_TableSame.ev _ _ _ _ ha.1.1) (ev_ite (fun c2 => ev_ite (fun c3 => Ev.bind (impl_SameBytes.ev _ _ _ _) (ev_ite (fun c4 => Ev.bind (impl_headsSame.ev _ _ _ _ ha.2.2) (ev_some ?_)) fun c4 => ev_some ?_)) fun c3 => ev_some ?_) fun c2 => ev_some ?_)) fun c1 => ev_some ?_
  · have c1' : limSame a b = true := c1
    rw [c1', c2]; simp [c3, c4]
  · have c1' : limSame a b = true := c1
    rw [c1', c2]; simp [c3, c4]
  · have c1' : limSame a b = true := c1
    rw [c1', c2]; simp [c3]
  · have c1' : limSame a b = true := c1
    rw [c1']; simp [c2]
  · have c1' : limSame a b = false := by
      cases h : limSame a b with
      | false => rfl
      | true => exact (c1 h).elim
    rw [c1']; rfl
theorem spec_LightSame.ev (a b : Light) (ha : a.few) : Ev (fun k => spec_LightSame.f k a.l0 a.l1 a.l2 a.l3 a.l4 a.rz (a.rows.map Row.t) a.skip a.bz a.buf a.cz (a.chain.map Head.t) b.l0 b.l1 b.l2 b.l3 b.l4 b.rz (b.rows.map Row.t) b.skip b.bz b.buf b.cz (b.chain.map Head.t)) (lightSame a b) := by
  have hl := ha.2.2.1
  refine ev_step ?_
  simp only [spec_LightSame.f, spec_LightSame.b, List.length_map]
  unfold lightSame
  refine ev_ite (fun c1 => ev_some ?_) fun c1 => Ev.bind (spec_TableSame.ev _ _ _ _ ha.1.1) (ev_ite (fun c2 => ev_some ?_) fun c2 => ev_ite (fun c3 => ev_some ?_) fun c3 => Ev.bind (spec_SameBytes.ev _ _ _ _) (ev_ite (fun c4 => ev_some ?_) fun c4 => ev_ite (fun c5 => ev_some ?_) fun c5 => ?_))
  · have c1' : limSame a b = false := by
      cases h : limSame a b with
      | false => rfl
      | true => exact (c1 h).elim
    rw [c1']; rfl
  · have c2' : tableSame a.rows b.rows = false := by simpa using c2
    simp [c2']
  · have c3' : ¬ a.skip = b.skip := c3
    simp [c3']
  · have c4' : sameB a.buf b.buf = false := by simpa using c4
    simp [c4']
  · have : ¬ a.chain.length = b.chain.length := fun e => c5 (len_eq.2 e)
    simp [headsSame, this]
  · have c1' : limSame a b = true := by
      cases h : limSame a b with
      | true => rfl
      | false => exact (c1 (by intro h2; have h3 : limSame a b = true := h2; rw [h] at h3; cases h3)).elim
    have c2' : tableSame a.rows b.rows = true := by simpa using c2
    have c3' : a.skip = b.skip := by simpa using c3
    have c4' : sameB a.buf b.buf = true := by simpa using c4
    have hab : a.chain.length = b.chain.length := len_eq.1 (by simpa using c5)
    rw [c1', c2', c4']
    simp only [decide_eq_true c3', headsSame, hab, decide_true, Bool.true_and]
    rw [← hab]
    refine ev_allp (fun k i => spec_LightSame.l0 k (a.chain.length : Int) i a.l0 a.l1 a.l2 a.l3 a.l4 a.rz (a.rows.map Row.t) a.skip a.bz a.buf a.cz (a.chain.map Head.t) b.l0 b.l1 b.l2 b.l3 b.l4 b.rz (b.rows.map Row.t) b.skip b.bz b.buf b.cz (b.chain.map Head.t)) a.chain.length _ (fun n hn hp r hr => ?_) (fun n hn hp => ?_) ?_ a.chain.length 0 (by omega)
    · have hb : n < b.chain.length := by omega
      rw [getD_in hn, getD_in hb] at hp
      refine ev_step ?_
      simp only [spec_LightSame.l0, spec_LightSame.l0b, List.length_map, Int.toNat_natCast, head_at hn, head_at hb, Head.c0, Head.c1, Head.c2, Head.c3z, Head.c3, Head.c4z, Head.c4, Head.c5, Head.c6, Head.c7z, Head.c7, Head.c8z, Head.c8, Head.c9z, Head.c9, succ_nat n (by omega)]
      exact ev_pos (by omega) (ev_pos (by omega) (ev_pos (by omega) (ev_pos (by omega) (ev_pos (by omega) (Ev.bind (spec_HeadSame.ev _ _ (ha.2.2.2 _ (List.getElem_mem hn))) (ev_neg (by simp [hp]) hr))))))
    · have hb : n < b.chain.length := by omega
      rw [getD_in hn, getD_in hb] at hp
      refine ev_step ?_
      simp only [spec_LightSame.l0, spec_LightSame.l0b, List.length_map, Int.toNat_natCast, head_at hn, head_at hb, Head.c0, Head.c1, Head.c2, Head.c3z, Head.c3, Head.c4z, Head.c4, Head.c5, Head.c6, Head.c7z, Head.c7, Head.c8z, Head.c8, Head.c9z, Head.c9, succ_nat n (by omega)]
      exact ev_pos (by omega) (ev_pos (by omega) (ev_pos (by omega) (ev_pos (by omega) (ev_pos (by omega) (Ev.bind (spec_HeadSame.ev _ _ (ha.2.2.2 _ (List.getElem_mem hn))) (ev_pos (by simp [hp]) (ev_some rfl)))))))
    · refine ev_step ?_
      simp only [spec_LightSame.l0, spec_LightSame.l0b, List.length_map]
      exact ev_neg (by omega) (ev_some rfl)
theorem laws_szPush.ev (w : Int) (z : Bool) (l : List Int) (h : l.length ≤ 9223372036854775807) (a : Int) (h0 : 0 ≤ a) (h1 : a ≤ 1048576) : ∃ q, Ev (fun k => laws_szPush.f k w z l a) q ∧ SzR (okB l) a q := by
  obtain ⟨q, e, s⟩ := laws_szByteS.ev z l h a h0 h1
  rcases s with rfl | ⟨s1, s2, s3⟩
  · refine ⟨-1, ev_step ?_, Or.inl rfl⟩
    simp only [laws_szPush.f, laws_szPush.b]
    exact Ev.bind e (ev_pos (by omega) (ev_some rfl))
  · refine ⟨q, ev_step ?_, Or.inr ⟨s1, s2, s3⟩⟩
    simp only [laws_szPush.f, laws_szPush.b]
    exact Ev.bind e (ev_neg (by omega) (ev_some rfl))
theorem laws_szLight.ev (x : Light) (h : x.fit) (a : Int) (h0 : 0 ≤ a) (h1 : a ≤ 1048576) : ∃ r, Ev (fun k => laws_szLight.f k x.l0 x.l1 x.l2 x.l3 x.l4 x.rz (x.rows.map Row.t) x.skip x.bz x.buf x.cz (x.chain.map Head.t) a) r ∧ SzR x.few a r := by
  obtain ⟨r, e, s⟩ := laws_szTable.ev x.rz x.rows h.1 a h0 h1
  rcases s with rfl | ⟨s1, s2, s3⟩
  · refine ⟨-1, ev_step ?_, Or.inl rfl⟩
    simp only [laws_szLight.f, laws_szLight.b]
    exact Ev.bind e (ev_pos (by omega) (ev_some rfl))
  obtain ⟨p, e2, s⟩ := laws_szPush.ev x.skip x.bz x.buf h.2.1 r s1 (by omega)
  rcases s with rfl | ⟨t1, t2, t3⟩
  · refine ⟨-1, ev_step ?_, Or.inl rfl⟩
    simp only [laws_szLight.f, laws_szLight.b]
    exact Ev.bind e (ev_neg (by omega) (Ev.bind e2 (ev_pos (by omega) (ev_some rfl))))
  obtain ⟨o, e3, s⟩ := laws_szHeadS.ev x.cz x.chain h.2.2 p t1 (by omega)
  rcases s with rfl | ⟨u1, u2, u3⟩
  · refine ⟨-1, ev_step ?_, Or.inl rfl⟩
    simp only [laws_szLight.f, laws_szLight.b]
    exact Ev.bind e (ev_neg (by omega) (Ev.bind e2 (ev_neg (by omega) (Ev.bind e3 (ev_pos (by omega) (ev_some rfl))))))
  · refine ⟨o, ev_step ?_, Or.inr ⟨u1, by omega, s3, t3, u3⟩⟩
    simp only [laws_szLight.f, laws_szLight.b]
    exact Ev.bind e (ev_neg (by omega) (Ev.bind e2 (ev_neg (by omega) (Ev.bind e3 (ev_neg (by omega) (ev_some rfl))))))
theorem laws_toLimits.ev (a b c d e : Int) : Ev (fun k => laws_toLimits.f k a b c d e) (a, b, c, d, e) := by
  refine ev_step ?_
  simp only [laws_toLimits.f, laws_toLimits.b]
  exact ev_some rfl
theorem laws_toPush.ev (w : Int) (z : Bool) (l : List Int) (h : okB l) : Ev (fun k => laws_toPush.f k w z l) (w, false, l) := by
  refine ev_step ?_
  simp only [laws_toPush.f, laws_toPush.b]
  exact Ev.bind (laws_toByteS.ev z l h) (ev_some rfl)
theorem laws_toLight.ev (x : Light) (h : x.few) : Ev (fun k => laws_toLight.f k x.l0 x.l1 x.l2 x.l3 x.l4 x.rz (x.rows.map Row.t) x.skip x.bz x.buf x.cz (x.chain.map Head.t)) (x.l0, x.l1, x.l2, x.l3, x.l4, false, (x.rows.map Row.cp).map Row.t, x.skip, false, x.buf, false, (x.chain.map Head.cp).map Head.t) := by
  refine ev_step ?_
  simp only [laws_toLight.f, laws_toLight.b]
  exact Ev.bind (laws_toLimits.ev _ _ _ _ _) (Ev.bind (laws_toTable.ev _ _ h.1) (Ev.bind (laws_toPush.ev _ _ _ h.2.1) (Ev.bind (laws_toHeadS.ev _ _ h.2.2) (ev_some rfl))))
theorem laws_eqLimits.ev (a b c d e : Int) : Ev (fun k => laws_eqLimits.f k a b c d e a b c d e) true := by
  refine ev_step ?_
  simp only [laws_eqLimits.f, laws_eqLimits.b]
  exact ev_neg (by simp) (ev_neg (by simp) (ev_neg (by simp) (ev_neg (by simp) (ev_neg (by simp) (ev_some rfl)))))
theorem laws_eqPush.ev (w : Int) (y z : Bool) (l : List Int) (h : okB l) : Ev (fun k => laws_eqPush.f k w y l w z l) true := by
  refine ev_step ?_
  simp only [laws_eqPush.f, laws_eqPush.b]
  exact ev_neg (by simp) (Ev.bind (laws_eqByteS.ev y z l h) (ev_neg (by simp) (ev_some rfl)))
theorem laws_eqLight.ev (x : Light) (h : x.few) : Ev (fun k => laws_eqLight.f k x.l0 x.l1 x.l2 x.l3 x.l4 x.rz (x.rows.map Row.t) x.skip x.bz x.buf x.cz (x.chain.map Head.t) x.l0 x.l1 x.l2 x.l3 x.l4 x.rz (x.rows.map Row.t) x.skip x.bz x.buf x.cz (x.chain.map Head.t)) true := by
  refine ev_step ?_
  simp only [laws_eqLight.f, laws_eqLight.b]
  exact Ev.bind (laws_eqLimits.ev _ _ _ _ _) (ev_neg (by simp) (Ev.bind (laws_eqTable.ev _ _ _ h.1) (ev_neg (by simp) (Ev.bind (laws_eqPush.ev _ _ _ _ h.2.1) (ev_neg (by simp) (Ev.bind (laws_eqHeadS.ev _ _ _ h.2.2) (ev_neg (by simp) (ev_some rfl))))))))
theorem laws_FnExactLightSame.ev (a b : Light) (ha : a.fit) (hb : b.fit) : Ev (fun k => laws_FnExactLightSame.f k a.l0 a.l1 a.l2 a.l3 a.l4 a.rz (a.rows.map Row.t) a.skip a.bz a.buf a.cz (a.chain.map Head.t) b.l0 b.l1 b.l2 b.l3 b.l4 b.rz (b.rows.map Row.t) b.skip b.bz b.buf b.cz (b.chain.map Head.t)) true := by
  refine ev_step ?_
  simp only [laws_FnExactLightSame.f, laws_FnExactLightSame.b]
  obtain ⟨r, e, s⟩ := laws_szLight.ev a ha 1048576 (by omega) (by omega)
  rcases s with rfl | ⟨s1, s2, fa⟩
  · exact Ev.bind e (ev_pos (by omega) (ev_some rfl))
  refine Ev.bind e (ev_neg (by omega) ?_)
  obtain ⟨r2, e2, s⟩ := laws_szLight.ev b hb r s1 s2
  rcases s with rfl | ⟨t1, t2, fb⟩
  · exact Ev.bind e2 (ev_pos (by omega) (ev_some rfl))
  refine Ev.bind e2 (ev_neg (by omega) ?_)
  have ga := Light.fewCp fa
  have gb := Light.fewCp fb
  have A := laws_toLight.ev a fa
  have B := laws_toLight.ev b fb
  exact Ev.bind A (Ev.bind B (Ev.bind (spec_LightSame.ev a.cp b.cp ga) (Ev.bind A (Ev.bind B (Ev.bind (impl_LightSame.ev a.cp b.cp ga) (ev_neg (by simp) (Ev.bind A (Ev.bind (laws_eqLight.ev a.cp ga) (ev_neg (by simp) (Ev.bind B (Ev.bind (laws_eqLight.ev b.cp gb) (ev_neg (by simp) (ev_some rfl)))))))))))))
end Go.Proofs.YtgmloaobmddmaaaG
