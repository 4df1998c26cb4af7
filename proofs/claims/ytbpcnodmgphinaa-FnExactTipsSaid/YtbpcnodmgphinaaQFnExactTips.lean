/- What the printed forms answer, over numbers and lists alone. Each lemma names its conditions. -/
import Derived.Test.YtbpcnodmgphinaaGFnExactTipse
namespace Go.Proofs.YtbpcnodmgphinaaG
open Go Go.Proofs.YtbpcnodmgphinaaRv Go.RowKit
set_option linter.unusedVariables false
set_option linter.unusedSimpArgs false


theorem impl_within.ev (a b c : Int) : Ev (fun k => impl_within.f k a b c) (decide (b ≤ a ∧ a ≤ c)) := by
  refine ev_step ?_
  simp only [impl_within.f, impl_within.b]
  exact ev_ite (fun h => ev_some (by simp [h])) (fun h => ev_some (by simp [h]))
theorem spec_l01In.ev (a b c : Int) : Ev (fun k => spec_l01In.f k a b c) (decide (b ≤ a ∧ a ≤ c)) := by
  refine ev_step ?_
  simp only [spec_l01In.f, spec_l01In.b]
  exact ev_ite (fun h => ev_some (by simp [show b ≤ a from h])) (fun h => ev_some (by simp [show ¬ b ≤ a from h]))
theorem impl_isNum.ev (a : Int) : Ev (fun k => impl_isNum.f k a) (isNum a) := by
  refine ev_step ?_
  simp only [impl_isNum.f, impl_isNum.b]
  exact Ev.bind (impl_within.ev _ _ _) (ev_some rfl)
theorem spec_l01Num.ev (a : Int) : Ev (fun k => spec_l01Num.f k a) (isNum a) := by
  refine ev_step ?_
  simp only [spec_l01Num.f, spec_l01Num.b]
  exact Ev.bind (spec_l01In.ev _ _ _) (ev_some rfl)
theorem impl_copyBytes.ev (z : Bool) (l : List Int) (h : l.length ≤ 1073741824) : Ev (fun k => impl_copyBytes.f k z l) (false, l) := by
  refine ev_step ?_
  simp only [impl_copyBytes.f, impl_copyBytes.b]
  exact ev_pos (by omega) (ev_some (by simp))
theorem spec_l01Copy.ev (z : Bool) (l : List Int) (h : l.length ≤ 1073741824) : Ev (fun k => spec_l01Copy.f k z l) (false, l) := by
  refine ev_step ?_
  simp only [spec_l01Copy.f, spec_l01Copy.b]
  exact ev_pos (by omega) (ev_some (by simp))



def putV (b : List Int) (n : Int) : Bool × List Int × Bool := if isNum n = true then (false, b ++ vint 8 n, true) else (true, [], false)
theorem impl_PutVar.ev0 : ∀ (m : Nat) (n : Int) (z : Bool) (acc : List Int), 0 ≤ n → n < 128 ^ (m + 1) → n ≤ 1152921504606846975 → acc.length + m ≤ 1073741840 → Ev (fun k => impl_PutVar.l0 k n z acc) (false, acc ++ vint m n, true)
  | 0, n, z, acc, h0, h1, h2, hl => by
    simp at h1
    refine ev_step ?_
    simp only [impl_PutVar.l0, impl_PutVar.l0b]
    refine ev_neg (by omega) (ev_pos (by omega) (ev_some ?_))
    rw [Int.emod_eq_of_lt h0 (by omega)]
    rfl
  | m + 1, n, z, acc, h0, h1, h2, hl => by
    refine ev_step ?_
    simp only [impl_PutVar.l0, impl_PutVar.l0b]
    unfold vint
    by_cases c : n < 128
    · rw [if_pos c]
      refine ev_neg (by omega) (ev_pos (by omega) (ev_some ?_))
      rw [Int.emod_eq_of_lt h0 (by omega)]
    · rw [if_neg c, Int.tdiv_eq_ediv_of_nonneg h0, Int.tmod_eq_emod_of_nonneg h0, w64 (n := n / 128) (by omega) (by omega), w64 (by omega) (by omega)]
      refine ev_pos (by omega) (ev_pos (by omega) (ev_to (impl_PutVar.ev0 m (n / 128) _ _ (by omega) ?_ (by omega) (by simp; omega)) ?_))
      · have e : (128 : Int) ^ (m + 1 + 1) = 128 ^ (m + 1) * 128 := Int.pow_succ 128 (m + 1)
        rw [e] at h1
        generalize (128 : Int) ^ (m + 1) = q at *
        omega
      · rw [List.append_assoc, List.singleton_append]
        congr 4
        omega
theorem impl_PutVar.ev (z : Bool) (b : List Int) (n : Int) (hb : b.length ≤ 1073741824) : Ev (fun k => impl_PutVar.f k z b n) (putV b n) := by
  refine ev_step ?_
  simp only [impl_PutVar.f, impl_PutVar.b]
  unfold putV
  refine Ev.bind (impl_isNum.ev n) (ev_ite (fun c => ev_some (by rw [if_neg c])) (fun c => ?_))
  have c : isNum n = true := by simpa using c
  obtain ⟨h0, h1⟩ := num_pow c
  rw [if_pos c]
  exact Ev.bind (impl_copyBytes.ev z b hb) (impl_PutVar.ev0 8 n _ b h0 h1 (isNum_iff.1 c).2 (by omega))
theorem spec_PutVar.ev0 : ∀ (m : Nat) (n : Int) (z : Bool) (acc : List Int), 0 ≤ n → n < 128 ^ (m + 1) → n ≤ 1152921504606846975 → acc.length + m ≤ 1073741840 → Ev (fun k => spec_PutVar.l0 k n z acc) (false, acc ++ vint m n, true)
  | 0, n, z, acc, h0, h1, h2, hl => by
    simp at h1
    refine ev_step ?_
    simp only [spec_PutVar.l0, spec_PutVar.l0b]
    refine ev_neg (by omega) (ev_pos (by omega) (ev_some ?_))
    rw [Int.emod_eq_of_lt h0 (by omega)]
    rfl
  | m + 1, n, z, acc, h0, h1, h2, hl => by
    refine ev_step ?_
    simp only [spec_PutVar.l0, spec_PutVar.l0b]
    unfold vint
    by_cases c : n < 128
    · rw [if_pos c]
      refine ev_neg (by omega) (ev_pos (by omega) (ev_some ?_))
      rw [Int.emod_eq_of_lt h0 (by omega)]
    · rw [if_neg c, Int.tdiv_eq_ediv_of_nonneg h0, Int.tmod_eq_emod_of_nonneg h0, w64 (n := n / 128) (by omega) (by omega), w64 (by omega) (by omega)]
      refine ev_pos (by omega) (ev_pos (by omega) (ev_to (spec_PutVar.ev0 m (n / 128) _ _ (by omega) ?_ (by omega) (by simp; omega)) ?_))
      · have e : (128 : Int) ^ (m + 1 + 1) = 128 ^ (m + 1) * 128 := Int.pow_succ 128 (m + 1)
        rw [e] at h1
        generalize (128 : Int) ^ (m + 1) = q at *
        omega
      · rw [List.append_assoc, List.singleton_append]
        congr 4
        omega
theorem spec_PutVar.ev (z : Bool) (b : List Int) (n : Int) (hb : b.length ≤ 1073741824) : Ev (fun k => spec_PutVar.f k z b n) (putV b n) := by
  refine ev_step ?_
  simp only [spec_PutVar.f, spec_PutVar.b]
  unfold putV
  refine Ev.bind (spec_l01Num.ev n) (ev_ite (fun c => ev_some (by rw [if_neg c])) (fun c => ?_))
  have c : isNum n = true := by simpa using c
  obtain ⟨h0, h1⟩ := num_pow c
  rw [if_pos c]
  exact Ev.bind (spec_l01Copy.ev z b hb) (spec_PutVar.ev0 8 n _ b h0 h1 (isNum_iff.1 c).2 (by omega))
theorem spec_l11Num.ev (z : Bool) (b : List Int) (n : Int) (hb : b.length ≤ 1073741824) : Ev (fun k => spec_l11Num.f k z b n) ((putV b n).1, (putV b n).2.1) := by
  refine ev_step ?_
  simp only [spec_l11Num.f, spec_l11Num.b]
  exact Ev.bind (spec_PutVar.ev z b n hb) (ev_some rfl)

structure Row where
  f0 : Int
  z : Bool
  f1 : List Int
instance : Inhabited Row := ⟨⟨0, false, []⟩⟩
def Row.t (r : Row) : T := .agg [.int .i64 r.f0, .nums 5 .u8 r.z r.f1]
theorem Row.c0 (r : Row) : (r.t.cells.getD 0 .bad).toInt = r.f0 := rfl
theorem Row.c1 (r : Row) : (r.t.cells.getD 1 .bad).toNums = r.f1 := rfl

theorem spec_l02Signers.ev (a : Int) : Ev (fun k => spec_l02Signers.f k a) (decide (1 ≤ a ∧ a ≤ 10)) := by
  refine ev_step ?_
  simp only [spec_l02Signers.f, spec_l02Signers.b]
  exact Ev.bind (spec_l01In.ev _ _ _) (ev_some rfl)
theorem impl_SameBytes.ev (y z : Bool) (a b : List Int) : Ev (fun k => impl_SameBytes.f k y a z b) (sameB a b) := by
  refine ev_step ?_
  simp only [impl_SameBytes.f, impl_SameBytes.b]
  exact ev_some rfl
theorem spec_SameBytes.ev (y z : Bool) (a b : List Int) : Ev (fun k => spec_SameBytes.f k y a z b) (sameB a b) := by
  refine ev_step ?_
  simp only [spec_SameBytes.f, spec_SameBytes.b]
  exact ev_some rfl
theorem sameB_comm (a b : List Int) : sameB a b = sameB b a := by simp [sameB, eq_comm]
end Go.Proofs.YtbpcnodmgphinaaG
namespace Go.Proofs.YtbpcnodmgphinaaG
open Go Go.Proofs.YtbpcnodmgphinaaRv Go.RowKit
set_option linter.unusedVariables false
set_option linter.unusedSimpArgs false


def isW (x : Int) : Prop := 0 ≤ x ∧ x ≤ 4294967295
def turn (x n : Int) : Int := Go.bits .and .i64 (Go.bits .or .i64 (shrI .i64 x n) (shlI .i64 x (wrap64 ((32 : Int) - n)))) 4294967295
theorem wraps_i64 (n : Int) (h₀ : 0 ≤ n) (h₁ : n < 2 ^ 63) : IntKind.i64.wrap n = n := by rw [IntKind.wrap_i64]; omega
theorem and_mask (y : Int) : isW (Go.bits .and .i64 y 4294967295) := by
  have h : ∀ n : Nat, n ≤ 4294967295 → isW (IntKind.i64.wrap (n : Int)) := fun n hn => by
    rw [wraps_i64 _ (by omega) (by omega)]
    unfold isW
    omega
  simp only [Go.bits]
  refine h _ ?_
  rw [BitVec.toNat_and]
  refine Nat.le_trans Nat.and_le_right ?_
  decide
theorem bits_w {a b : Nat} (ha : a < 2 ^ 32) (hb : b < 2 ^ 32) : Go.bits .and .i64 (a : Int) b = ((a &&& b : Nat) : Int) ∧ Go.bits .or .i64 (a : Int) b = ((a ||| b : Nat) : Int) ∧ Go.bits .xor .i64 (a : Int) b = ((a ^^^ b : Nat) : Int) := by
  obtain ⟨h1, h2⟩ := bits_nat .i64 63 (by decide) wraps_i64 a b (by omega) (by omega)
  refine ⟨h1, h2, ?_⟩
  have ha' : a % 2 ^ 64 = a := Nat.mod_eq_of_lt (by omega)
  have hb' : b % 2 ^ 64 = b := Nat.mod_eq_of_lt (by omega)
  have hx : a ^^^ b < 2 ^ 32 := Nat.xor_lt_two_pow ha hb
  simp only [Go.bits, BitVec.ofInt_natCast, BitVec.toNat_xor, BitVec.toNat_ofNat]
  show IntKind.i64.wrap (((a % 2 ^ 64) ^^^ (b % 2 ^ 64) : Nat) : Int) = _
  rw [ha', hb']
  exact wraps_i64 _ (by omega) (by omega)
theorem W_nat {x : Int} (h : isW x) : ∃ n : Nat, x = (n : Int) ∧ n < 2 ^ 32 := by
  obtain ⟨n, rfl⟩ := Int.eq_ofNat_of_zero_le h.1
  refine ⟨n, rfl, ?_⟩
  have := h.2
  omega
theorem nat_W {n : Nat} (h : n < 2 ^ 32) : isW (n : Int) := by unfold isW; omega
theorem ch_eq {e f g : Int} (he : isW e) (hf : isW f) (hg : isW g) : Go.bits .or .i64 (Go.bits .and .i64 e f) (Go.bits .and .i64 (Go.bits .xor .i64 e 4294967295) g) = Go.bits .xor .i64 (Go.bits .and .i64 e f) (Go.bits .and .i64 (Go.bits .xor .i64 4294967295 e) g) := by
  obtain ⟨a, rfl, ha⟩ := W_nat he
  obtain ⟨b, rfl, hb⟩ := W_nat hf
  obtain ⟨c, rfl, hc⟩ := W_nat hg
  have hm : (4294967295 : Nat) < 2 ^ 32 := by decide
  have e1 : (4294967295 : Int) = ((4294967295 : Nat) : Int) := rfl
  have h1 : a &&& b < 2 ^ 32 := Nat.and_lt_two_pow _ hb
  have h2 : a ^^^ 4294967295 < 2 ^ 32 := Nat.xor_lt_two_pow ha hm
  have h3 : 4294967295 ^^^ a < 2 ^ 32 := Nat.xor_lt_two_pow hm ha
  rw [e1, (bits_w ha hb).1, (bits_w ha hm).2.2, (bits_w hm ha).2.2, (bits_w h2 hc).1, (bits_w h3 hc).1, (bits_w h1 (Nat.and_lt_two_pow _ hc)).2.1, (bits_w h1 (Nat.and_lt_two_pow _ hc)).2.2]
  congr 1
  apply Nat.eq_of_testBit_eq
  intro i
  simp only [Nat.testBit_or, Nat.testBit_and, Nat.testBit_xor]
  by_cases hi : i < 32
  · have : Nat.testBit 4294967295 i = true := by
      have := Nat.testBit_two_pow_sub_one 32 i
      simpa [hi] using this
    rw [this]
    cases a.testBit i <;> cases b.testBit i <;> cases c.testBit i <;> rfl
  · have z : a.testBit i = false := Nat.testBit_lt_two_pow (Nat.lt_of_lt_of_le ha (Nat.pow_le_pow_right (by decide) (by omega)))
    have y : c.testBit i = false := Nat.testBit_lt_two_pow (Nat.lt_of_lt_of_le hc (Nat.pow_le_pow_right (by decide) (by omega)))
    rw [z, y]
    simp
theorem maj_eq {e f g : Int} (he : isW e) (hf : isW f) (hg : isW g) : Go.bits .or .i64 (Go.bits .or .i64 (Go.bits .and .i64 e f) (Go.bits .and .i64 e g)) (Go.bits .and .i64 f g) = Go.bits .xor .i64 (Go.bits .xor .i64 (Go.bits .and .i64 e f) (Go.bits .and .i64 e g)) (Go.bits .and .i64 f g) := by
  obtain ⟨a, rfl, ha⟩ := W_nat he
  obtain ⟨b, rfl, hb⟩ := W_nat hf
  obtain ⟨c, rfl, hc⟩ := W_nat hg
  have h1 : a &&& b < 2 ^ 32 := Nat.and_lt_two_pow _ hb
  have h2 : a &&& c < 2 ^ 32 := Nat.and_lt_two_pow _ hc
  have h3 : b &&& c < 2 ^ 32 := Nat.and_lt_two_pow _ hc
  rw [(bits_w ha hb).1, (bits_w ha hc).1, (bits_w hb hc).1, (bits_w h1 h2).2.1, (bits_w h1 h2).2.2, (bits_w (Nat.or_lt_two_pow h1 h2) h3).2.1, (bits_w (Nat.xor_lt_two_pow h1 h2) h3).2.2]
  congr 1
  apply Nat.eq_of_testBit_eq
  intro i
  simp only [Nat.testBit_or, Nat.testBit_and, Nat.testBit_xor]
  cases a.testBit i <;> cases b.testBit i <;> cases c.testBit i <;> rfl

theorem impl_isWord.ev (x : Int) : Ev (fun k => impl_isWord.f k x) (decide (0 ≤ x ∧ x ≤ 4294967295)) := by
  refine ev_step ?_
  simp only [impl_isWord.f, impl_isWord.b]
  exact Ev.bind (impl_within.ev _ _ _) (ev_some rfl)
theorem spec_l04Word.ev (x : Int) : Ev (fun k => spec_l04Word.f k x) (decide (0 ≤ x ∧ x ≤ 4294967295)) := by
  refine ev_step ?_
  simp only [spec_l04Word.f, spec_l04Word.b]
  exact Ev.bind (spec_l01In.ev _ _ _) (ev_some rfl)
theorem impl_TurnRight.ev (x n : Int) (hx : isW x) (h0 : 0 ≤ n) (h1 : n ≤ 31) : Ev (fun k => impl_TurnRight.f k x n) (turn x n) := by
  have := hx.1
  have := hx.2
  refine ev_step ?_
  simp only [impl_TurnRight.f, impl_TurnRight.b]
  refine Ev.bind (impl_isWord.ev x) (ev_neg (by simp; omega) (Ev.bind (impl_within.ev _ _ _) (ev_neg (by simp; omega) (ev_pos h0 (ev_pos (by unfold wrap64; omega) (ev_some rfl))))))
theorem spec_l04Turn.ev (x n : Int) (h0 : 0 ≤ n) (h1 : n ≤ 31) : Ev (fun k => spec_l04Turn.f k x n) (turn x n) := by
  refine ev_step ?_
  simp only [spec_l04Turn.f, spec_l04Turn.b]
  exact ev_pos h0 (ev_pos (by unfold wrap64; omega) (ev_some rfl))


theorem rdI_nat {l : List Int} {n : Nat} (h : n < l.length) : rdI l (n : Int) = l[n] := by simp [rdI, h]
def Ws (l : List Int) : Prop := ∀ x ∈ l, isW x
theorem Ws_rd {l : List Int} (h : Ws l) (i : Int) : isW (rdI l i) := by
  unfold rdI
  by_cases hi : i.toNat < l.length
  · rw [List.getD_eq_getElem?_getD, List.getElem?_eq_getElem hi]
    exact h _ (List.getElem_mem hi)
  · rw [List.getD_eq_getElem?_getD, List.getElem?_eq_none (by omega)]
    show isW 0
    unfold isW
    omega

def wb (b : List Int) (i : Nat) : Int := Go.bits .or .i64 (Go.bits .or .i64 (Go.bits .or .i64 (shlI .i64 (wrap64 (rdI b ((4 * i : Nat) : Int))) 24) (shlI .i64 (wrap64 (rdI b ((4 * i + 1 : Nat) : Int))) 16)) (shlI .i64 (wrap64 (rdI b ((4 * i + 2 : Nat) : Int))) 8)) (wrap64 (rdI b ((4 * i + 3 : Nat) : Int)))

def sc (w : List Int) : Int :=
  let x := rdI w ((w.length - 15 : Nat) : Int)
  let y := rdI w ((w.length - 2 : Nat) : Int)
  Go.bits .and .i64 (wrap64 (wrap64 (wrap64 (rdI w ((w.length - 16 : Nat) : Int) + Go.bits .xor .i64 (Go.bits .xor .i64 (turn x 7) (turn x 18)) (shrI .i64 x 3)) + rdI w ((w.length - 7 : Nat) : Int)) + Go.bits .xor .i64 (Go.bits .xor .i64 (turn y 17) (turn y 19)) (shrI .i64 y 10))) 4294967295
def grow (w : List Int) : Nat → List Int
  | 0 => w
  | d + 1 => grow (w ++ [sc w]) d
def rnd (K W : List Int) (i : Nat) (v : List Int) : List Int :=
  let t := wrap64 (wrap64 (wrap64 (wrap64 (rdI v 7 + Go.bits .xor .i64 (Go.bits .xor .i64 (turn (rdI v 4) 6) (turn (rdI v 4) 11)) (turn (rdI v 4) 25)) + Go.bits .xor .i64 (Go.bits .and .i64 (rdI v 4) (rdI v 5)) (Go.bits .and .i64 (Go.bits .xor .i64 4294967295 (rdI v 4)) (rdI v 6))) + rdI K (i : Int)) + rdI W (i : Int))
  let u := wrap64 (Go.bits .xor .i64 (Go.bits .xor .i64 (turn (rdI v 0) 2) (turn (rdI v 0) 13)) (turn (rdI v 0) 22) + Go.bits .xor .i64 (Go.bits .xor .i64 (Go.bits .and .i64 (rdI v 0) (rdI v 1)) (Go.bits .and .i64 (rdI v 0) (rdI v 2))) (Go.bits .and .i64 (rdI v 1) (rdI v 2)))
  [Go.bits .and .i64 (wrap64 (t + u)) 4294967295, rdI v 0, rdI v 1, rdI v 2, Go.bits .and .i64 (wrap64 (rdI v 3 + t)) 4294967295, rdI v 4, rdI v 5, rdI v 6]
def rnds (K W : List Int) : Nat → Nat → List Int → List Int
  | 0, _, v => v
  | d + 1, i, v => rnds K W d (i + 1) (rnd K W i v)
def outs (h v : List Int) (n : Nat) : List Int := (List.range n).map fun (i : Nat) => Go.bits .and .i64 (wrap64 (rdI h (i : Int) + rdI v (i : Int))) 4294967295
def shaK : List Int := [1116352408, 1899447441, 3049323471, 3921009573, 961987163, 1508970993, 2453635748, 2870763221, 3624381080, 310598401, 607225278, 1426881987, 1925078388, 2162078206, 2614888103, 3248222580, 3835390401, 4022224774, 264347078, 604807628, 770255983, 1249150122, 1555081692, 1996064986, 2554220882, 2821834349, 2952996808, 3210313671, 3336571891, 3584528711, 113926993, 338241895, 666307205, 773529912, 1294757372, 1396182291, 1695183700, 1986661051, 2177026350, 2456956037, 2730485921, 2820302411, 3259730800, 3345764771, 3516065817, 3600352804, 4094571909, 275423344, 430227734, 506948616, 659060556, 883997877, 958139571, 1322822218, 1537002063, 1747873779, 1955562222, 2024104815, 2227730452, 2361852424, 2428436474, 2756734187, 3204031479, 3329325298]
def shaW (b : List Int) : List Int := grow ((List.range 16).map (wb b)) 48
def shaBlk (h b : List Int) : List Int := outs h (rnds shaK (shaW b) 64 0 h) 8
def bytesOk (b : List Int) : Prop := ∀ x ∈ b, 0 ≤ x ∧ x < 256

theorem grow_W : ∀ (d : Nat) (w : List Int), Ws w → Ws (grow w d)
  | 0, w, h => h
  | d + 1, w, h => grow_W d _ fun x hx => by
    rcases List.mem_append.1 hx with hx | hx
    · exact h x hx
    · rw [List.mem_singleton.1 hx]; exact and_mask _
theorem rnd_W (K W : List Int) (i : Nat) {v : List Int} (h : Ws v) : Ws (rnd K W i v) ∧ (rnd K W i v).length = 8 := by
  refine ⟨fun x hx => ?_, rfl⟩
  simp only [rnd, List.mem_cons, List.not_mem_nil, or_false] at hx
  rcases hx with rfl | rfl | rfl | rfl | rfl | rfl | rfl | rfl <;> first | exact and_mask _ | exact Ws_rd h _
theorem outs_W (h v : List Int) (n : Nat) : Ws (outs h v n) ∧ (outs h v n).length = n := by
  refine ⟨fun x hx => ?_, by simp [outs]⟩
  obtain ⟨i, _, rfl⟩ := List.mem_map.1 hx
  exact and_mask _
theorem byte_shl {x : Int} (h0 : 0 ≤ x) (h1 : x < 256) (s : Nat) (hs : s ≤ 24) : ∃ n : Nat, shlI .i64 (wrap64 x) (s : Int) = (n : Int) ∧ n < 2 ^ 32 := by
  obtain ⟨n, rfl⟩ := Int.eq_ofNat_of_zero_le h0
  rw [w64 (by omega) (by omega)]
  have hp : (2 : Nat) ^ s ≤ 2 ^ 24 := Nat.pow_le_pow_right (by decide) hs
  have hlt : n * 2 ^ s < 2 ^ 32 := by
    have : n * 2 ^ s ≤ 255 * 2 ^ 24 := Nat.mul_le_mul (by omega) hp
    omega
  refine ⟨n * 2 ^ s, ?_, hlt⟩
  unfold shlI
  have e : min ((s : Int)).toNat (IntKind.bits .i64) = s := by
    have : IntKind.bits .i64 = 64 := rfl
    rw [this, Int.toNat_natCast]
    omega
  have e2 : ((n : Int) * 2 ^ s) = ((n * 2 ^ s : Nat) : Int) := by push_cast; rfl
  rw [e, e2]
  exact wraps_i64 _ (by omega) (by omega)
theorem rd_byte {b : List Int} (h : bytesOk b) (i : Int) : 0 ≤ rdI b i ∧ rdI b i < 256 := by
  unfold rdI
  by_cases hi : i.toNat < b.length
  · rw [List.getD_eq_getElem?_getD, List.getElem?_eq_getElem hi]
    exact h _ (List.getElem_mem hi)
  · rw [List.getD_eq_getElem?_getD, List.getElem?_eq_none (by omega)]
    exact ⟨by simp, by simp⟩
theorem wb_W {b : List Int} (h : bytesOk b) (i : Nat) : isW (wb b i) := by
  unfold wb
  obtain ⟨n1, e1, l1⟩ := byte_shl (rd_byte h ((4 * i : Nat) : Int)).1 (rd_byte h _).2 24 (by omega)
  obtain ⟨n2, e2, l2⟩ := byte_shl (rd_byte h ((4 * i + 1 : Nat) : Int)).1 (rd_byte h _).2 16 (by omega)
  obtain ⟨n3, e3, l3⟩ := byte_shl (rd_byte h ((4 * i + 2 : Nat) : Int)).1 (rd_byte h _).2 8 (by omega)
  have h4 := rd_byte h ((4 * i + 3 : Nat) : Int)
  have e4 := w64 (n := rdI b ((4 * i + 3 : Nat) : Int)) (by omega) (by omega)
  rw [e4]
  obtain ⟨n4, e5⟩ := Int.eq_ofNat_of_zero_le h4.1
  have l4 : n4 < 2 ^ 32 := by omega
  have f1 : shlI .i64 (wrap64 (rdI b ((4 * i : Nat) : Int))) 24 = (n1 : Int) := e1
  have f2 : shlI .i64 (wrap64 (rdI b ((4 * i + 1 : Nat) : Int))) 16 = (n2 : Int) := e2
  have f3 : shlI .i64 (wrap64 (rdI b ((4 * i + 2 : Nat) : Int))) 8 = (n3 : Int) := e3
  rw [f1, f2, f3, e5, (bits_w l1 l2).2.1, (bits_w (Nat.or_lt_two_pow l1 l2) l3).2.1, (bits_w (Nat.or_lt_two_pow (Nat.or_lt_two_pow l1 l2) l3) l4).2.1]
  exact nat_W (Nat.or_lt_two_pow (Nat.or_lt_two_pow (Nat.or_lt_two_pow l1 l2) l3) l4)
end Go.Proofs.YtbpcnodmgphinaaG
namespace Go.Proofs.YtbpcnodmgphinaaG
open Go Go.Proofs.YtbpcnodmgphinaaRv Go.RowKit
set_option linter.unusedVariables false
set_option linter.unusedSimpArgs false

theorem w4 (i j : Nat) (h : i ≤ 1000000000) (hj : j ≤ 1000) : wrap64 (((i : Nat) : Int) + (j : Int)) = ((i + j : Nat) : Int) := by unfold wrap64; omega
theorem rdI_app {l m : List Int} {n : Nat} (h : n < l.length) : rdI (l ++ m) (n : Int) = rdI l (n : Int) := by simp [rdI, List.getD_eq_getElem?_getD, List.getElem?_append_left h]
def pad (w : List Int) : List Int := w ++ List.replicate (64 - w.length) 0
theorem pad_rd {w : List Int} {n : Nat} (h : n < w.length) : rdI (pad w) (n : Int) = rdI w (n : Int) := rdI_app h
theorem pad_set {w : List Int} (h : w.length < 64) (x : Int) : (pad w).set w.length x = pad (w ++ [x]) := by
  unfold pad
  rw [List.set_append_right _ _ (Nat.le_refl _), Nat.sub_self, List.append_assoc]
  have : 64 - w.length = (64 - (w ++ [x]).length) + 1 := by simp; omega
  rw [this, List.replicate_succ]
  simp

theorem sc_def (w : List Int) : sc w = Go.bits .and .i64 (wrap64 (wrap64 (wrap64 (rdI w ((w.length - 16 : Nat) : Int) + Go.bits .xor .i64 (Go.bits .xor .i64 (turn (rdI w ((w.length - 15 : Nat) : Int)) 7) (turn (rdI w ((w.length - 15 : Nat) : Int)) 18)) (shrI .i64 (rdI w ((w.length - 15 : Nat) : Int)) 3)) + rdI w ((w.length - 7 : Nat) : Int)) + Go.bits .xor .i64 (Go.bits .xor .i64 (turn (rdI w ((w.length - 2 : Nat) : Int)) 17) (turn (rdI w ((w.length - 2 : Nat) : Int)) 19)) (shrI .i64 (rdI w ((w.length - 2 : Nat) : Int)) 10))) 4294967295 := rfl
section
variable (y0 y1 y2 : Bool) (h b : List Int)

theorem impl_rounds.ev : Ev (fun k => impl_rounds.f k) (false, shaK) := by
  refine ev_step ?_
  simp only [impl_rounds.f, impl_rounds.b]
  exact ev_some rfl
theorem spec_l04K.ev : Ev (fun k => spec_l04K.f k) (false, shaK) := by
  refine ev_step ?_
  simp only [spec_l04K.f, spec_l04K.b]
  exact ev_some rfl


theorem impl_ShaBlock.ev4 (v : List Int) (hh : h.length = 8) : ∀ (d i : Nat), i + d = 8 → Ev (fun k => impl_ShaBlock.l4 k y0 h (outs h v i) (i : Int) v) (false, outs h v 8)
  | 0, i, hi => by
    obtain rfl : i = 8 := by omega
    refine ev_step ?_
    simp only [impl_ShaBlock.l4, impl_ShaBlock.l4b]
    exact ev_neg (by omega) (ev_some rfl)
  | d + 1, i, hi => by
    refine ev_step ?_
    simp only [impl_ShaBlock.l4, impl_ShaBlock.l4b]
    have hl := (outs_W h v i).2
    refine ev_pos (by omega) (ev_pos (by omega) (ev_pos (by omega) (ev_pos (by omega) (ev_pos (by omega) (ev_pos (by omega) ?_)))))
    have e : wrap64 ((i : Int) + 1) = ((i + 1 : Nat) : Int) := by unfold wrap64; omega
    rw [e]
    have e2 : outs h v i ++ [Go.bits .and .i64 (wrap64 (rdI h (i : Int) + rdI v (i : Int))) 4294967295] = outs h v (i + 1) := by simp [outs, List.range_succ]
    rw [e2]
    exact impl_ShaBlock.ev4 v hh d (i + 1) (by omega)
theorem impl_ShaBlock.ev3 (hh : h.length = 8) (W : List Int) (hW : Ws W) (hWl : W.length = 64) : ∀ (d i : Nat) (v : List Int), i + d = 64 → Ws v → v.length = 8 → Ev (fun k => impl_ShaBlock.l3 k y0 h false shaK (i : Int) W v) (false, outs h (rnds shaK W d i v) 8)
  | 0, i, v, hi, hv, hl => by
    obtain rfl : i = 64 := by omega
    refine ev_step ?_
    simp only [impl_ShaBlock.l3, impl_ShaBlock.l3b]
    exact ev_neg (by omega) (impl_ShaBlock.ev4 y0 h v hh 8 0 (by omega))
  | d + 1, i, v, hi, hv, hl => by
    refine ev_step ?_
    simp only [impl_ShaBlock.l3, impl_ShaBlock.l3b]
    have hk : shaK.length = 64 := rfl
    have r := fun j => Ws_rd hv j
    refine ev_pos (by omega) (Ev.bind (impl_TurnRight.ev _ _ (r 4) (by omega) (by omega)) (Ev.bind (impl_TurnRight.ev _ _ (r 4) (by omega) (by omega)) (Ev.bind (impl_TurnRight.ev _ _ (r 4) (by omega) (by omega)) ?_)))
    refine ev_pos (by omega) (ev_pos (by omega) (ev_pos (by omega) (ev_pos (by omega) ?_)))
    refine Ev.bind (impl_TurnRight.ev _ _ (r 0) (by omega) (by omega)) (Ev.bind (impl_TurnRight.ev _ _ (r 0) (by omega) (by omega)) (Ev.bind (impl_TurnRight.ev _ _ (r 0) (by omega) (by omega)) ?_))
    have e : wrap64 ((i : Int) + 1) = ((i + 1 : Nat) : Int) := by unfold wrap64; omega
    rw [e, ch_eq (r 4) (r 5) (r 6), maj_eq (r 0) (r 1) (r 2)]
    exact impl_ShaBlock.ev3 hh W hW hWl d (i + 1) (rnd shaK W i v) (by omega) (rnd_W _ _ _ hv).1 rfl
theorem impl_ShaBlock.ev2 (hh : h.length = 8) (hw : Ws h) : ∀ (d : Nat) (W : List Int), W.length + d = 64 → 16 ≤ W.length → Ws W → Ev (fun k => impl_ShaBlock.l2 k y0 h false shaK (W.length : Int) (pad W)) (false, outs h (rnds shaK (grow W d) 64 0 h) 8)
  | 0, W, hi, h16, hW => by
    refine ev_step ?_
    simp only [impl_ShaBlock.l2, impl_ShaBlock.l2b]
    have e : h.take 8 ++ ([0, 0, 0, 0, 0, 0, 0, 0] : List Int).drop h.length = h := by
      rw [List.take_of_length_le (by omega), hh]
      simp
    have ep : pad W = W := by
      have : 64 - W.length = 0 := by omega
      simp [pad, this]
    rw [e, ep]
    exact ev_neg (by omega) (impl_ShaBlock.ev3 y0 h hh W hW (by omega) 64 0 h (by omega) hw hh)
  | d + 1, W, hi, h16, hW => by
    have hw2 : W.length < 64 := by omega
    have hl : (W ++ [sc W]).length = W.length + 1 := by simp
    have ih := impl_ShaBlock.ev2 hh hw d (W ++ [sc W]) (by omega) (by omega) (grow_W 1 W hW)
    rw [hl, ← pad_set hw2] at ih
    refine ev_step ?_
    simp only [impl_ShaBlock.l2, impl_ShaBlock.l2b]
    have a15 : wrap64 ((W.length : Int) - 15) = ((W.length - 15 : Nat) : Int) := by unfold wrap64; omega
    have a2 : wrap64 ((W.length : Int) - 2) = ((W.length - 2 : Nat) : Int) := by unfold wrap64; omega
    have a16 : wrap64 ((W.length : Int) - 16) = ((W.length - 16 : Nat) : Int) := by unfold wrap64; omega
    have a7 : wrap64 ((W.length : Int) - 7) = ((W.length - 7 : Nat) : Int) := by unfold wrap64; omega
    rw [a15, a2, a16, a7, pad_rd (n := W.length - 15) (by omega), pad_rd (n := W.length - 2) (by omega), pad_rd (n := W.length - 16) (by omega), pad_rd (n := W.length - 7) (by omega)]
    clear a15 a2 a16 a7
    have r := fun j => Ws_rd hW j
    refine ev_pos (by omega) (ev_pos (by omega) (ev_pos (by omega) (ev_pos (by omega) (ev_pos (by omega) ?_))))
    refine Ev.bind (impl_TurnRight.ev _ _ (r _) (by omega) (by omega)) (Ev.bind (impl_TurnRight.ev _ _ (r _) (by omega) (by omega)) (Ev.bind (impl_TurnRight.ev _ _ (r _) (by omega) (by omega)) (Ev.bind (impl_TurnRight.ev _ _ (r _) (by omega) (by omega)) ?_)))
    refine ev_pos (by omega) (ev_pos (by omega) (ev_pos (by omega) (ev_pos (by omega) (ev_pos (by omega) (ev_pos (by omega) ?_)))))
    have e : wrap64 ((W.length : Int) + 1) = ((W.length + 1 : Nat) : Int) := by unfold wrap64; omega
    rw [e, Int.toNat_natCast, ← sc_def]
    exact ih
theorem impl_ShaBlock.ev1 (hh : h.length = 8) (hw : Ws h) (hb : b.length = 64) (hbb : bytesOk b) : ∀ (d i : Nat), i + d = 16 → Ev (fun k => impl_ShaBlock.l1 k y0 h y1 b false shaK (i : Int) (pad ((List.range i).map (wb b)))) (false, shaBlk h b)
  | 0, i, hi => by
    obtain rfl : i = 16 := by omega
    refine ev_step ?_
    simp only [impl_ShaBlock.l1, impl_ShaBlock.l1b]
    have := impl_ShaBlock.ev2 y0 h hh hw 48 ((List.range 16).map (wb b)) (by simp) (by simp) (fun x hx => by
      obtain ⟨i, _, rfl⟩ := List.mem_map.1 hx
      exact wb_W hbb i)
    have hl : ((List.range 16).map (wb b)).length = 16 := by simp
    rw [hl] at this
    exact ev_neg (by omega) this
  | d + 1, i, hi => by
    refine ev_step ?_
    simp only [impl_ShaBlock.l1, impl_ShaBlock.l1b]
    have e4 : wrap64 ((4 : Int) * (i : Int)) = ((4 * i : Nat) : Int) := by unfold wrap64; omega
    have e41 : wrap64 (((4 * i : Nat) : Int) + 1) = ((4 * i + 1 : Nat) : Int) := by unfold wrap64; omega
    have e42 : wrap64 (((4 * i : Nat) : Int) + 2) = ((4 * i + 2 : Nat) : Int) := by unfold wrap64; omega
    have e43 : wrap64 (((4 * i : Nat) : Int) + 3) = ((4 * i + 3 : Nat) : Int) := by unfold wrap64; omega
    have e : wrap64 ((i : Int) + 1) = ((i + 1 : Nat) : Int) := by unfold wrap64; omega
    rw [e4, e41, e42, e43, e]
    clear e4 e41 e42 e43 e
    refine ev_pos (by omega) (ev_pos (by omega) (ev_pos (by omega) (ev_pos (by omega) (ev_pos (by omega) (ev_pos (by omega) (ev_pos (by omega) (ev_pos (by omega) (ev_pos (by omega) (ev_pos (by omega) (ev_pos (by omega) ?_))))))))))
    have ih := impl_ShaBlock.ev1 hh hw hb hbb d (i + 1) (by omega)
    have hs := pad_set (w := (List.range i).map (wb b)) (by simp; omega) (wb b i)
    have hl : ((List.range i).map (wb b)).length = i := by simp
    rw [hl] at hs
    rw [List.range_succ, List.map_append, List.map_singleton, ← hs] at ih
    rw [Int.toNat_natCast]
    exact ih
theorem impl_ShaBlock.ev0 (hh : h.length = 8) (hw : Ws h) (hb : b.length = 64) (hbb : bytesOk b) : ∀ (d i : Nat), i + d = 8 → Ev (fun k => impl_ShaBlock.l0 k y0 h y1 b y2 h (h.length : Int) (i : Int)) (false, shaBlk h b)
  | 0, i, hi => by
    obtain rfl : i = 8 := by omega
    refine ev_step ?_
    simp only [impl_ShaBlock.l0, impl_ShaBlock.l0b]
    exact ev_neg (by omega) (Ev.bind impl_rounds.ev (impl_ShaBlock.ev1 y0 y1 h b hh hw hb hbb 16 0 (by omega)))
  | d + 1, i, hi => by
    refine ev_step ?_
    simp only [impl_ShaBlock.l0, impl_ShaBlock.l0b]
    have e : wrap64 ((i : Int) + 1) = ((i + 1 : Nat) : Int) := by unfold wrap64; omega
    have hx := Ws_rd hw (i : Int)
    rw [e]
    exact ev_pos (by omega) (ev_pos (by omega) (ev_pos (by omega) (Ev.bind (impl_isWord.ev _) (ev_neg (by simp [hx.1, hx.2]) (impl_ShaBlock.ev0 hh hw hb hbb d (i + 1) (by omega))))))
theorem impl_ShaBlock.ev (hh : h.length = 8) (hw : Ws h) (hb : b.length = 64) (hbb : bytesOk b) : Ev (fun k => impl_ShaBlock.f k y0 h y1 b) (false, shaBlk h b) := by
  refine ev_step ?_
  simp only [impl_ShaBlock.f, impl_ShaBlock.b]
  exact ev_neg (by simp; omega) (ev_neg (by simp; omega) (impl_ShaBlock.ev0 y0 y1 y0 h b hh hw hb hbb 8 0 (by omega)))


theorem spec_ShaBlock.ev4 (v : List Int) (hh : h.length = 8) (hv : v.length = 8) : ∀ (d i : Nat), i + d = 8 → Ev (fun k => spec_ShaBlock.l4 k y0 h y1 v (outs h v i) (h.length : Int) (i : Int)) (false, outs h v 8)
  | 0, i, hi => by
    obtain rfl : i = 8 := by omega
    refine ev_step ?_
    simp only [spec_ShaBlock.l4, spec_ShaBlock.l4b]
    exact ev_neg (by omega) (ev_some rfl)
  | d + 1, i, hi => by
    refine ev_step ?_
    simp only [spec_ShaBlock.l4, spec_ShaBlock.l4b]
    have hl := (outs_W h v i).2
    refine ev_pos (by omega) (ev_pos (by omega) (ev_pos (by omega) (ev_pos (by omega) (ev_pos (by omega) (ev_pos (by omega) ?_)))))
    have e : wrap64 ((i : Int) + 1) = ((i + 1 : Nat) : Int) := by unfold wrap64; omega
    rw [e]
    have e2 : outs h v i ++ [Go.bits .and .i64 (wrap64 (rdI h (i : Int) + rdI v (i : Int))) 4294967295] = outs h v (i + 1) := by simp [outs, List.range_succ]
    rw [e2]
    exact spec_ShaBlock.ev4 v hh hv d (i + 1) (by omega)
theorem spec_ShaBlock.ev3 (hh : h.length = 8) (W : List Int) (hWl : W.length = 64) : ∀ (d i : Nat) (z : Bool) (v : List Int), i + d = 64 → v.length = 8 → Ev (fun k => spec_ShaBlock.l3 k y0 h W false shaK z v (i : Int)) (false, outs h (rnds shaK W d i v) 8)
  | 0, i, z, v, hi, hl => by
    obtain rfl : i = 64 := by omega
    refine ev_step ?_
    simp only [spec_ShaBlock.l3, spec_ShaBlock.l3b]
    exact ev_neg (by omega) (spec_ShaBlock.ev4 y0 z h v hh hl 8 0 (by omega))
  | d + 1, i, z, v, hi, hl => by
    refine ev_step ?_
    simp only [spec_ShaBlock.l3, spec_ShaBlock.l3b]
    have hk : shaK.length = 64 := rfl
    have e : wrap64 ((i : Int) + 1) = ((i + 1 : Nat) : Int) := by unfold wrap64; omega
    rw [e]
    refine ev_pos (by omega) (ev_pos (by omega) (ev_pos (by omega) (ev_pos (by omega) ?_)))
    refine Ev.bind (spec_l04Turn.ev _ _ (by omega) (by omega)) (Ev.bind (spec_l04Turn.ev _ _ (by omega) (by omega)) (Ev.bind (spec_l04Turn.ev _ _ (by omega) (by omega)) ?_))
    refine ev_pos (by omega) (ev_pos (by omega) (ev_pos (by omega) (ev_pos (by omega) (ev_pos (by omega) (ev_pos (by omega) ?_)))))
    refine Ev.bind (spec_l04Turn.ev _ _ (by omega) (by omega)) (Ev.bind (spec_l04Turn.ev _ _ (by omega) (by omega)) (Ev.bind (spec_l04Turn.ev _ _ (by omega) (by omega)) ?_))
    refine ev_pos (by omega) (ev_pos (by omega) (ev_pos (by omega) (ev_pos (by omega) (ev_pos (by omega) (ev_pos (by omega) (ev_pos (by omega) (ev_pos (by omega) (ev_pos (by omega) (ev_pos (by omega) (ev_pos (by omega) ?_))))))))))
    exact spec_ShaBlock.ev3 hh W hWl d (i + 1) false (rnd shaK W i v) (by omega) rfl
theorem spec_ShaBlock.ev2 (hh : h.length = 8) : ∀ (d : Nat) (W : List Int), W.length + d = 64 → 16 ≤ W.length → Ev (fun k => spec_ShaBlock.l2 k y0 h W (W.length : Int)) (false, outs h (rnds shaK (grow W d) 64 0 h) 8)
  | 0, W, hi, h16 => by
    refine ev_step ?_
    simp only [spec_ShaBlock.l2, spec_ShaBlock.l2b]
    exact ev_neg (by omega) (Ev.bind spec_l04K.ev (ev_pos (by omega) (spec_ShaBlock.ev3 y0 h hh W (by omega) 64 0 _ h (by omega) hh)))
  | d + 1, W, hi, h16 => by
    have hl : (W ++ [sc W]).length = W.length + 1 := by simp
    have ih := spec_ShaBlock.ev2 hh d (W ++ [sc W]) (by omega) (by omega)
    rw [hl] at ih
    refine ev_step ?_
    simp only [spec_ShaBlock.l2, spec_ShaBlock.l2b]
    have a15 : wrap64 ((W.length : Int) - 15) = ((W.length - 15 : Nat) : Int) := by unfold wrap64; omega
    have a2 : wrap64 ((W.length : Int) - 2) = ((W.length - 2 : Nat) : Int) := by unfold wrap64; omega
    have a16 : wrap64 ((W.length : Int) - 16) = ((W.length - 16 : Nat) : Int) := by unfold wrap64; omega
    have a7 : wrap64 ((W.length : Int) - 7) = ((W.length - 7 : Nat) : Int) := by unfold wrap64; omega
    have e : wrap64 ((W.length : Int) + 1) = ((W.length + 1 : Nat) : Int) := by unfold wrap64; omega
    rw [a15, a2, a16, a7, e]
    clear a15 a2 a16 a7 e
    refine ev_pos (by omega) (ev_pos (by omega) (ev_pos (by omega) (ev_pos (by omega) (ev_pos (by omega) ?_))))
    refine Ev.bind (spec_l04Turn.ev _ _ (by omega) (by omega)) (Ev.bind (spec_l04Turn.ev _ _ (by omega) (by omega)) (Ev.bind (spec_l04Turn.ev _ _ (by omega) (by omega)) (Ev.bind (spec_l04Turn.ev _ _ (by omega) (by omega)) ?_)))
    refine ev_pos (by omega) (ev_pos (by omega) (ev_pos (by omega) (ev_pos (by omega) (ev_pos (by omega) ?_))))
    rw [← sc_def]
    exact ih
theorem spec_ShaBlock.ev1 (hh : h.length = 8) (hb : b.length = 64) : ∀ (d i : Nat), i + d = 16 → Ev (fun k => spec_ShaBlock.l1 k y0 h y1 b ((List.range i).map (wb b)) ((4 * i : Nat) : Int)) (false, shaBlk h b)
  | 0, i, hi => by
    obtain rfl : i = 16 := by omega
    refine ev_step ?_
    simp only [spec_ShaBlock.l1, spec_ShaBlock.l1b]
    have := spec_ShaBlock.ev2 y0 h hh 48 ((List.range 16).map (wb b)) (by simp) (by simp)
    have hl : ((List.range 16).map (wb b)).length = 16 := by simp
    rw [hl] at this
    exact ev_neg (by omega) this
  | d + 1, i, hi => by
    refine ev_step ?_
    simp only [spec_ShaBlock.l1, spec_ShaBlock.l1b]
    have e41 : wrap64 (((4 * i : Nat) : Int) + 1) = ((4 * i + 1 : Nat) : Int) := by unfold wrap64; omega
    have e42 : wrap64 (((4 * i : Nat) : Int) + 2) = ((4 * i + 2 : Nat) : Int) := by unfold wrap64; omega
    have e43 : wrap64 (((4 * i : Nat) : Int) + 3) = ((4 * i + 3 : Nat) : Int) := by unfold wrap64; omega
    have e44 : wrap64 (((4 * i : Nat) : Int) + 4) = ((4 * (i + 1) : Nat) : Int) := by unfold wrap64; omega
    rw [e41, e42, e43, e44]
    clear e41 e42 e43 e44
    have hl : ((List.range i).map (wb b)).length = i := by simp
    refine ev_pos (by omega) (ev_pos (by omega) (ev_pos (by omega) (ev_pos (by omega) (ev_pos (by omega) (ev_pos (by omega) (ev_pos (by omega) (ev_pos (by omega) (ev_pos (by omega) (ev_pos (by omega) ?_)))))))))
    have ih := spec_ShaBlock.ev1 hh hb d (i + 1) (by omega)
    rw [List.range_succ, List.map_append, List.map_singleton] at ih
    exact ih
theorem spec_ShaBlock.ev0 (hh : h.length = 8) (hw : Ws h) (hb : b.length = 64) : ∀ (d i : Nat), i + d = 8 → Ev (fun k => spec_ShaBlock.l0 k y0 h y1 b y2 h (h.length : Int) (i : Int)) (false, shaBlk h b)
  | 0, i, hi => by
    obtain rfl : i = 8 := by omega
    refine ev_step ?_
    simp only [spec_ShaBlock.l0, spec_ShaBlock.l0b]
    exact ev_neg (by omega) (spec_ShaBlock.ev1 y0 y1 h b hh hb 16 0 (by omega))
  | d + 1, i, hi => by
    refine ev_step ?_
    simp only [spec_ShaBlock.l0, spec_ShaBlock.l0b]
    have e : wrap64 ((i : Int) + 1) = ((i + 1 : Nat) : Int) := by unfold wrap64; omega
    have hx := Ws_rd hw (i : Int)
    rw [e]
    exact ev_pos (by omega) (ev_pos (by omega) (ev_pos (by omega) (Ev.bind (spec_l04Word.ev _) (ev_neg (by simp [hx.1, hx.2]) (spec_ShaBlock.ev0 hh hw hb d (i + 1) (by omega))))))
theorem spec_ShaBlock.ev (hh : h.length = 8) (hw : Ws h) (hb : b.length = 64) : Ev (fun k => spec_ShaBlock.f k y0 h y1 b) (false, shaBlk h b) := by
  refine ev_step ?_
  simp only [spec_ShaBlock.f, spec_ShaBlock.b]
  exact ev_neg (by simp; omega) (ev_neg (by simp; omega) (spec_ShaBlock.ev0 y0 y1 y0 h b hh hw hb 8 0 (by omega)))
theorem shaBlk_W : Ws (shaBlk h b) ∧ (shaBlk h b).length = 8 := outs_W _ _ _
end
end Go.Proofs.YtbpcnodmgphinaaG
namespace Go.Proofs.YtbpcnodmgphinaaG
open Go Go.Proofs.YtbpcnodmgphinaaRv Go.RowKit
set_option linter.unusedVariables false
set_option linter.unusedSimpArgs false


def padz : Nat → List Int → List Int
  | 0, l => l
  | d + 1, l => if l.length % 64 = 56 then l else padz d (l ++ [0])
theorem padz_spec : ∀ (d : Nat) (l : List Int), (∃ j, j ≤ d ∧ (l.length + j) % 64 = 56) → (padz d l).length % 64 = 56 ∧ (padz d l).length ≤ l.length + d ∧ (bytesOk l → bytesOk (padz d l))
  | 0, l, ⟨j, h1, h2⟩ => by
    obtain rfl : j = 0 := by omega
    exact ⟨by simpa [padz] using h2, by simp [padz], fun h => h⟩
  | d + 1, l, ⟨j, h1, h2⟩ => by
    unfold padz
    split
    · rename_i h
      exact ⟨h, by omega, fun h => h⟩
    · rename_i h
      have hj : j ≠ 0 := fun e => h (by rw [← h2, e, Nat.add_zero])
      obtain ⟨p1, p2, p3⟩ := padz_spec d (l ++ [0]) ⟨j - 1, by omega, by simp only [List.length_append, List.length_singleton]; rw [← h2]; congr 1; omega⟩
      refine ⟨p1, by simp only [List.length_append, List.length_singleton] at p2; omega, fun hb => p3 fun x hx => ?_⟩
      rcases List.mem_append.1 hx with hx | hx
      · exact hb x hx
      · rw [List.mem_singleton.1 hx]; omega
def padl (n : Int) : Nat → List Int → List Int
  | 0, l => l
  | d + 1, l => padl n d (l ++ [(shrI .i64 n (wrap64 ((8 : Int) * (d : Int)))) % 256])
theorem padl_spec (n : Int) : ∀ (d : Nat) (l : List Int), (padl n d l).length = l.length + d ∧ (bytesOk l → bytesOk (padl n d l))
  | 0, l => ⟨rfl, fun h => h⟩
  | d + 1, l => by
    obtain ⟨h1, h2⟩ := padl_spec n d (l ++ [(shrI .i64 n (wrap64 ((8 : Int) * (d : Int)))) % 256])
    refine ⟨by rw [padl, h1]; simp; omega, fun hb => h2 fun x hx => ?_⟩
    rcases List.mem_append.1 hx with hx | hx
    · exact hb x hx
    · rw [List.mem_singleton.1 hx]; omega
def shaPadV (l : List Int) : List Int := padl (wrap64 ((8 : Int) * (l.length : Int))) 8 (padz 64 (l ++ [128]))
theorem mod_ex (n : Nat) : ∃ j, j ≤ 64 ∧ (n + j) % 64 = 56 := ⟨(56 + 64 - n % 64) % 64, by omega, by omega⟩
theorem shaPadV_spec (l : List Int) (hb : bytesOk l) : (shaPadV l).length % 64 = 0 ∧ (shaPadV l).length ≤ l.length + 73 ∧ bytesOk (shaPadV l) := by
  obtain ⟨p1, p2, p3⟩ := padz_spec 64 (l ++ [128]) (mod_ex _)
  obtain ⟨q1, q2⟩ := padl_spec (wrap64 ((8 : Int) * (l.length : Int))) 8 (padz 64 (l ++ [128]))
  unfold shaPadV
  simp only [List.length_append, List.length_singleton] at p2
  refine ⟨by omega, by omega, q2 (p3 fun x hx => ?_)⟩
  rcases List.mem_append.1 hx with hx | hx
  · exact hb x hx
  · rw [List.mem_singleton.1 hx]; omega
theorem tmod_len (n : Nat) : Int.tmod (n : Int) 64 = ((n % 64 : Nat) : Int) := by rw [Int.tmod_eq_emod_of_nonneg (by omega)]; omega
theorem dec_nat (d : Nat) (h : d ≤ 100) : wrap64 ((d : Int) - 1) = (d : Int) - 1 := by unfold wrap64; omega
theorem mul8 (d : Nat) (h : d ≤ 100) : (0 : Int) ≤ wrap64 ((8 : Int) * (d : Int)) := by unfold wrap64; omega

section
variable (z : Bool) (l : List Int)
theorem impl_ShaPad.ev1 : ∀ (d : Nat) (acc : List Int), d ≤ 8 → acc.length + d ≤ 1073741840 → Ev (fun k => impl_ShaPad.l1 k z l acc ((d : Int) - 1)) (false, padl (wrap64 ((8 : Int) * (l.length : Int))) d acc)
  | 0, acc, h8, ha => by
    refine ev_step ?_
    simp only [impl_ShaPad.l1, impl_ShaPad.l1b]
    exact ev_neg (by omega) (ev_some rfl)
  | d + 1, acc, h8, ha => by
    refine ev_step ?_
    have ih := impl_ShaPad.ev1 d (acc ++ [(shrI .i64 (wrap64 ((8 : Int) * (l.length : Int))) (wrap64 ((8 : Int) * (d : Int)))) % 256]) (by omega) (by simp; omega)
    simp only [impl_ShaPad.l1, impl_ShaPad.l1b]
    have e : (((d + 1 : Nat) : Int) - 1) = (d : Int) := by omega
    rw [e, dec_nat d (by omega)]
    exact ev_pos (by omega) (ev_pos (mul8 d (by omega)) (ev_pos (by omega) ih))
theorem impl_ShaPad.ev0 : ∀ (d : Nat) (acc : List Int), (∃ j, j ≤ d ∧ (acc.length + j) % 64 = 56) → acc.length + d ≤ 1073741800 → Ev (fun k => impl_ShaPad.l0 k z l acc) (false, padl (wrap64 ((8 : Int) * (l.length : Int))) 8 (padz d acc))
  | 0, acc, ⟨j, h1, h2⟩, ha => by
    obtain rfl : j = 0 := by omega
    refine ev_step ?_
    simp only [impl_ShaPad.l0, impl_ShaPad.l0b, tmod_len]
    exact ev_neg (by simp; omega) (impl_ShaPad.ev1 z l 8 acc (by omega) (by omega))
  | d + 1, acc, hj, ha => by
    refine ev_step ?_
    simp only [impl_ShaPad.l0, impl_ShaPad.l0b, tmod_len]
    unfold padz
    split
    · rename_i h
      exact ev_neg (by simp; omega) (impl_ShaPad.ev1 z l 8 acc (by omega) (by omega))
    · rename_i h
      obtain ⟨j, h1, h2⟩ := hj
      have hj : j ≠ 0 := fun e => h (by rw [← h2, e, Nat.add_zero])
      exact ev_pos (by simp; omega) (ev_pos (by omega) (impl_ShaPad.ev0 d (acc ++ [0]) ⟨j - 1, by omega, by simp only [List.length_append, List.length_singleton]; rw [← h2]; congr 1; omega⟩ (by simp; omega)))
theorem impl_ShaPad.ev (h : l.length ≤ 1073741000) : Ev (fun k => impl_ShaPad.f k z l) (false, shaPadV l) := by
  refine ev_step ?_
  simp only [impl_ShaPad.f, impl_ShaPad.b]
  exact Ev.bind (impl_copyBytes.ev z l (by omega)) (ev_pos (by show l.length + 1 < _; omega) (impl_ShaPad.ev0 z l 64 (l ++ [128]) (mod_ex _) (by simp; omega)))
theorem spec_ShaPad.ev1 (n : Int) : ∀ (d : Nat) (acc : List Int), d ≤ 8 → acc.length + d ≤ 1073741840 → Ev (fun k => spec_ShaPad.l1 k acc n ((d : Int) - 1)) (false, padl n d acc)
  | 0, acc, h8, ha => by
    refine ev_step ?_
    simp only [spec_ShaPad.l1, spec_ShaPad.l1b]
    exact ev_neg (by omega) (ev_some rfl)
  | d + 1, acc, h8, ha => by
    refine ev_step ?_
    have ih := spec_ShaPad.ev1 n d (acc ++ [(shrI .i64 n (wrap64 ((8 : Int) * (d : Int)))) % 256]) (by omega) (by simp; omega)
    simp only [spec_ShaPad.l1, spec_ShaPad.l1b]
    have e : (((d + 1 : Nat) : Int) - 1) = (d : Int) := by omega
    rw [e, dec_nat d (by omega)]
    exact ev_pos (by omega) (ev_pos (mul8 d (by omega)) (ev_pos (by omega) ih))
theorem spec_ShaPad.ev0 : ∀ (d : Nat) (acc : List Int), (∃ j, j ≤ d ∧ (acc.length + j) % 64 = 56) → acc.length + d ≤ 1073741800 → Ev (fun k => spec_ShaPad.l0 k z l acc) (false, padl (wrap64 ((8 : Int) * (l.length : Int))) 8 (padz d acc))
  | 0, acc, ⟨j, h1, h2⟩, ha => by
    obtain rfl : j = 0 := by omega
    refine ev_step ?_
    simp only [spec_ShaPad.l0, spec_ShaPad.l0b, tmod_len]
    exact ev_neg (by simp; omega) (spec_ShaPad.ev1 _ 8 acc (by omega) (by omega))
  | d + 1, acc, hj, ha => by
    refine ev_step ?_
    simp only [spec_ShaPad.l0, spec_ShaPad.l0b, tmod_len]
    unfold padz
    split
    · rename_i h
      exact ev_neg (by simp; omega) (spec_ShaPad.ev1 _ 8 acc (by omega) (by omega))
    · rename_i h
      obtain ⟨j, h1, h2⟩ := hj
      have hj : j ≠ 0 := fun e => h (by rw [← h2, e, Nat.add_zero])
      exact ev_pos (by simp; omega) (ev_pos (by omega) (spec_ShaPad.ev0 d (acc ++ [0]) ⟨j - 1, by omega, by simp only [List.length_append, List.length_singleton]; rw [← h2]; congr 1; omega⟩ (by simp; omega)))
theorem spec_ShaPad.ev (h : l.length ≤ 1073741000) : Ev (fun k => spec_ShaPad.f k z l) (false, shaPadV l) := by
  refine ev_step ?_
  simp only [spec_ShaPad.f, spec_ShaPad.b]
  exact Ev.bind (spec_l01Copy.ev z l (by omega)) (ev_pos (by show l.length + 1 < _; omega) (spec_ShaPad.ev0 z l 64 (l ++ [128]) (mod_ex _) (by simp; omega)))
end


def shaH0 : List Int := [1779033703, 3144134277, 1013904242, 2773480762, 1359893119, 2600822924, 528734635, 1541459225]
theorem shaH0_W : Ws shaH0 ∧ shaH0.length = 8 := by
  refine ⟨fun x hx => ?_, rfl⟩
  simp only [shaH0, List.mem_cons, List.not_mem_nil, or_false] at hx
  rcases hx with rfl | rfl | rfl | rfl | rfl | rfl | rfl | rfl <;> exact ⟨by omega, by omega⟩
def shaL (p : List Int) : Nat → Nat → List Int → List Int
  | 0, _, h => h
  | d + 1, i, h => shaL p d (i + 1) (shaBlk h ((p.take (64 * i + 64)).drop (64 * i)))
theorem shaL_W (p : List Int) : ∀ (d i : Nat) (h : List Int), Ws h ∧ h.length = 8 → Ws (shaL p d i h) ∧ (shaL p d i h).length = 8
  | 0, i, h, hh => hh
  | d + 1, i, h, hh => shaL_W p d (i + 1) _ (shaBlk_W _ _)
def four (x : Int) : List Int := [(shrI .i64 x 24) % 256, (shrI .i64 x 16) % 256, (shrI .i64 x 8) % 256, x % 256]
def sha (l : List Int) : List Int := (shaL (shaPadV l) ((shaPadV l).length / 64) 0 shaH0).flatMap four
theorem flat4 (h : List Int) : (h.flatMap four).length = 4 * h.length ∧ bytesOk (h.flatMap four) := by
  induction h with
  | nil => exact ⟨rfl, fun x hx => by simp at hx⟩
  | cons a t ih =>
    refine ⟨by rw [List.flatMap_cons, List.length_append, ih.1]; simp [four]; omega, fun x hx => ?_⟩
    rw [List.flatMap_cons] at hx
    rcases List.mem_append.1 hx with hx | hx
    · simp only [four, List.mem_cons, List.not_mem_nil, or_false] at hx
      rcases hx with rfl | rfl | rfl | rfl <;> omega
    · exact ih.2 x hx
theorem sha_spec (l : List Int) : (sha l).length = 32 ∧ bytesOk (sha l) := by
  obtain ⟨h1, h2⟩ := shaL_W (shaPadV l) ((shaPadV l).length / 64) 0 shaH0 shaH0_W
  obtain ⟨h3, h4⟩ := flat4 (shaL (shaPadV l) ((shaPadV l).length / 64) 0 shaH0)
  exact ⟨by unfold sha; rw [h3, h2], h4⟩
theorem cut64 {p : List Int} {i : Nat} (h : 64 * i + 64 ≤ p.length) : ((p.take (64 * i + 64)).drop (64 * i)).length = 64 := by simp; omega
theorem cut_ok {p : List Int} (h : bytesOk p) (a b : Nat) : bytesOk ((p.take a).drop b) := fun x hx => h x (List.mem_of_mem_take (List.mem_of_mem_drop hx))
theorem step64 (i : Nat) (h : i ≤ 100000000) : wrap64 (((64 * i : Nat) : Int) + 64) = ((64 * i + 64 : Nat) : Int) := by unfold wrap64; omega

theorem impl_ShaInit.ev : Ev (fun k => impl_ShaInit.f k) (false, shaH0) := by
  refine ev_step ?_
  simp only [impl_ShaInit.f, impl_ShaInit.b]
  exact ev_some rfl
theorem spec_ShaInit.ev : Ev (fun k => spec_ShaInit.f k) (false, shaH0) := by
  refine ev_step ?_
  simp only [spec_ShaInit.f, spec_ShaInit.b]
  exact ev_some rfl
theorem succ_nat (i : Nat) (h : i ≤ 1000000000) : wrap64 ((i : Int) + 1) = ((i + 1 : Nat) : Int) := by unfold wrap64; omega
theorem impl_Sha.ev1 (z : Bool) (h : List Int) (hh : h.length = 8) : ∀ (d i : Nat) (acc : List Int), i + d = 8 → acc.length = 4 * i → Ev (fun k => impl_Sha.l1 k acc z h (h.length : Int) (i : Int)) (false, acc ++ (h.drop i).flatMap four)
  | 0, i, acc, hi, ha => by
    refine ev_step ?_
    simp only [impl_Sha.l1, impl_Sha.l1b]
    refine ev_neg (by omega) (ev_some ?_)
    rw [List.drop_of_length_le (by omega)]
    simp
  | d + 1, i, acc, hi, ha => by
    have hlt : i < h.length := by omega
    refine ev_step ?_
    have ih := impl_Sha.ev1 z h hh d (i + 1) (acc ++ four h[i]) (by omega) (by simp [four]; omega)
    simp only [impl_Sha.l1, impl_Sha.l1b, rdI_nat hlt, succ_nat i (by omega)]
    refine ev_pos (by omega) (ev_pos (by omega) (ev_pos (by omega) (ev_pos (by omega) (ev_to ih ?_))))
    rw [List.drop_eq_getElem_cons hlt, List.flatMap_cons, List.append_assoc]
theorem impl_Sha.ev0 (z : Bool) (p : List Int) (hb : bytesOk p) (m : Nat) (hp : p.length = 64 * m) (hm : m ≤ 100000000) : ∀ (d i : Nat) (y : Bool) (h : List Int), i + d = m → Ws h ∧ h.length = 8 → Ev (fun k => impl_Sha.l0 k y h z p ((64 * i : Nat) : Int)) (false, (shaL p d i h).flatMap four)
  | 0, i, y, h, hi, hh => by
    refine ev_step ?_
    simp only [impl_Sha.l0, impl_Sha.l0b]
    refine ev_neg (by omega) (ev_to (impl_Sha.ev1 y h hh.2 8 0 [] (by omega) rfl) ?_)
    simp [shaL]
  | d + 1, i, y, h, hi, hh => by
    refine ev_step ?_
    have ih := impl_Sha.ev0 z p hb m hp hm d (i + 1) false (shaBlk h ((p.take (64 * i + 64)).drop (64 * i))) (by omega) (shaBlk_W _ _)
    simp only [impl_Sha.l0, impl_Sha.l0b, step64 i (by omega), Int.toNat_natCast]
    exact ev_pos (by omega) (ev_pos (by omega) (ev_pos (by omega) (ev_pos (by omega) (ev_pos (by omega) (Ev.bind (impl_ShaBlock.ev y z h _ hh.2 hh.1 (cut64 (by omega)) (cut_ok hb _ _)) ih)))))
theorem impl_Sha.ev (z : Bool) (l : List Int) (h : l.length ≤ 1073741000) (hb : bytesOk l) : Ev (fun k => impl_Sha.f k z l) (false, sha l) := by
  refine ev_step ?_
  simp only [impl_Sha.f, impl_Sha.b]
  obtain ⟨p1, p2, p3⟩ := shaPadV_spec l hb
  exact Ev.bind impl_ShaInit.ev (Ev.bind (impl_ShaPad.ev z l h) (impl_Sha.ev0 false (shaPadV l) p3 ((shaPadV l).length / 64) (by omega) (by omega) ((shaPadV l).length / 64) 0 false shaH0 (by omega) shaH0_W))
theorem spec_Sha.ev1 (z : Bool) (h : List Int) (hh : h.length = 8) : ∀ (d i : Nat) (acc : List Int), i + d = 8 → acc.length = 4 * i → Ev (fun k => spec_Sha.l1 k acc z h (h.length : Int) (i : Int)) (false, acc ++ (h.drop i).flatMap four)
  | 0, i, acc, hi, ha => by
    refine ev_step ?_
    simp only [spec_Sha.l1, spec_Sha.l1b]
    refine ev_neg (by omega) (ev_some ?_)
    rw [List.drop_of_length_le (by omega)]
    simp
  | d + 1, i, acc, hi, ha => by
    have hlt : i < h.length := by omega
    refine ev_step ?_
    have ih := spec_Sha.ev1 z h hh d (i + 1) (acc ++ four h[i]) (by omega) (by simp [four]; omega)
    simp only [spec_Sha.l1, spec_Sha.l1b, rdI_nat hlt, succ_nat i (by omega)]
    refine ev_pos (by omega) (ev_pos (by omega) (ev_pos (by omega) (ev_pos (by omega) (ev_to ih ?_))))
    rw [List.drop_eq_getElem_cons hlt, List.flatMap_cons, List.append_assoc]
theorem spec_Sha.ev0 (z : Bool) (p : List Int) (hb : bytesOk p) (m : Nat) (hp : p.length = 64 * m) (hm : m ≤ 100000000) : ∀ (d i : Nat) (y : Bool) (h : List Int), i + d = m → Ws h ∧ h.length = 8 → Ev (fun k => spec_Sha.l0 k y h z p ((64 * i : Nat) : Int)) (false, (shaL p d i h).flatMap four)
  | 0, i, y, h, hi, hh => by
    refine ev_step ?_
    simp only [spec_Sha.l0, spec_Sha.l0b]
    refine ev_neg (by omega) (ev_to (spec_Sha.ev1 y h hh.2 8 0 [] (by omega) rfl) ?_)
    simp [shaL]
  | d + 1, i, y, h, hi, hh => by
    refine ev_step ?_
    have ih := spec_Sha.ev0 z p hb m hp hm d (i + 1) false (shaBlk h ((p.take (64 * i + 64)).drop (64 * i))) (by omega) (shaBlk_W _ _)
    simp only [spec_Sha.l0, spec_Sha.l0b, step64 i (by omega), Int.toNat_natCast]
    exact ev_pos (by omega) (ev_pos (by omega) (ev_pos (by omega) (ev_pos (by omega) (ev_pos (by omega) (Ev.bind (spec_ShaBlock.ev y z h _ hh.2 hh.1 (cut64 (by omega))) ih)))))
theorem spec_Sha.ev (z : Bool) (l : List Int) (h : l.length ≤ 1073741000) (hb : bytesOk l) : Ev (fun k => spec_Sha.f k z l) (false, sha l) := by
  refine ev_step ?_
  simp only [spec_Sha.f, spec_Sha.b]
  obtain ⟨p1, p2, p3⟩ := shaPadV_spec l hb
  exact Ev.bind spec_ShaInit.ev (Ev.bind (spec_ShaPad.ev z l h) (spec_Sha.ev0 false (shaPadV l) p3 ((shaPadV l).length / 64) (by omega) (by omega) ((shaPadV l).length / 64) 0 false shaH0 (by omega) shaH0_W))


theorem app_ok {a b : List Int} (ha : bytesOk a) (hb : bytesOk b) : bytesOk (a ++ b) := fun x hx => by
  rcases List.mem_append.1 hx with hx | hx
  · exact ha x hx
  · exact hb x hx
end Go.Proofs.YtbpcnodmgphinaaG
namespace Go.Proofs.YtbpcnodmgphinaaG
open Go Go.Proofs.YtbpcnodmgphinaaRv Go.RowKit
set_option linter.unusedVariables false
set_option linter.unusedSimpArgs false


def Row.ok (r : Row) : Prop := r.f1.length ≤ 1048576 ∧ bytesOk r.f1
def Rows (l : List Row) : Prop := l.length ≤ 1048576 ∧ ∀ r ∈ l, r.ok
def Row.fit (r : Row) : Prop := r.f1.length ≤ 9223372036854775807
def Fit (l : List Row) : Prop := l.length ≤ 9223372036854775807 ∧ ∀ r ∈ l, r.fit
def Few (l : List Row) : Prop := l.length ≤ 1048576 ∧ ∀ r ∈ l, okB r.f1

theorem laws_toByteS.ev (z : Bool) (l : List Int) (h : okB l) : Ev (fun k => laws_toByteS.f k z l) (false, l) := by
  have hl : l.length ≤ 1048576 := h
  refine ev_step ?_
  simp only [laws_toByteS.f, laws_toByteS.b]
  refine ev_pos trivial (ev_pos (by omega) (ev_pos (by omega) ?_))
  have key : ∀ (d n : Nat) (ys : List Int), n + d = l.length → ys.length = l.length → ys.take n = l.take n → Ev (fun k => laws_toByteS.l0 k z l ys (n : Int)) (false, l) := by
    intro d
    induction d with
    | zero =>
      intro n ys hn hy ht
      refine ev_step ?_
      simp only [laws_toByteS.l0, laws_toByteS.l0b]
      refine ev_neg (by omega) (ev_some ?_)
      obtain rfl : n = l.length := by omega
      rw [List.take_length, ← hy, List.take_length] at ht
      rw [ht]
    | succ d ih =>
      intro n ys hn hy ht
      have hlt : n < l.length := by omega
      refine ev_step ?_
      have i2 := ih (n + 1) (ys.set n l[n]) (by omega) (by simp [hy]) (by
        rw [List.take_succ_eq_append_getElem (by simp; omega), List.take_succ_eq_append_getElem hlt, List.take_set_of_le (Nat.le_refl n), ht, List.getElem_set_self])
      simp only [laws_toByteS.l0, laws_toByteS.l0b, rdI_nat hlt, succ_nat n (by omega), Int.toNat_natCast]
      exact ev_pos (by omega) (ev_pos (by omega) (ev_pos (by omega) (ev_pos (by omega) (ev_pos (by omega) i2))))
  exact key l.length 0 _ (by omega) (by simp) (by simp)
def Row.cp (r : Row) : Row := ⟨r.f0, false, r.f1⟩

theorem laws_eqByteS.ev (y z : Bool) (l : List Int) (h : okB l) : Ev (fun k => laws_eqByteS.f k y l z l) true := by
  have hl : l.length ≤ 1048576 := h
  refine ev_step ?_
  simp only [laws_eqByteS.f, laws_eqByteS.b]
  refine ev_neg (by simp) ?_
  have key : ∀ (d n : Nat), n + d = l.length → Ev (fun k => laws_eqByteS.l0 k y l z l (n : Int)) true := by
    intro d
    induction d with
    | zero =>
      intro n hn
      refine ev_step ?_
      simp only [laws_eqByteS.l0, laws_eqByteS.l0b]
      exact ev_neg (by omega) (ev_some rfl)
    | succ d ih =>
      intro n hn
      refine ev_step ?_
      simp only [laws_eqByteS.l0, laws_eqByteS.l0b, succ_nat n (by omega)]
      exact ev_pos (by omega) (ev_pos (by omega) (ev_pos (by omega) (ev_pos (by omega) (ev_pos (by omega) (ev_neg (by simp) (ih (n + 1) (by omega)))))))
  exact key l.length 0 (by omega)

end Go.Proofs.YtbpcnodmgphinaaG
namespace Go.Proofs.YtbpcnodmgphinaaG
open Go Go.Proofs.YtbpcnodmgphinaaRv Go.RowKit
set_option linter.unusedVariables false
set_option linter.unusedSimpArgs false

theorem spec_l07Hash.ev (z : Bool) (l : List Int) : Ev (fun k => spec_l07Hash.f k z l) (decide (l.length = 32)) := by
  refine ev_step ?_
  simp only [spec_l07Hash.f, spec_l07Hash.b]
  refine ev_some ?_
  have : ((l.length : Int) = 32) ↔ l.length = 32 := by omega
  simp [this]
theorem impl_areHashes.ev1 (y z : Bool) (l : List Int) : Ev (fun k => impl_areHashes.f k y [.nums 5 .u8 z l]) (decide (l.length = 32)) := by
  refine ev_step ?_
  simp only [impl_areHashes.f, impl_areHashes.b]
  refine ev_step ?_
  simp only [impl_areHashes.l0, impl_areHashes.l0b]
  refine ev_pos (by simp) (ev_pos (by simp) (ev_pos (by simp) ?_))
  have e : (((([.nums 5 .u8 z l] : List T).getD (0 : Int).toNat .bad).cells.getD 0 .bad).toNums) = l := rfl
  rw [e]
  refine ev_ite (fun c => ev_some ?_) (fun c => ?_)
  · have : ¬ l.length = 32 := fun h => c (by omega)
    simp [this]
  · have c' : l.length = 32 := by
      have : (l.length : Int) = 32 := by simpa using c
      omega
    refine ev_step ?_
    simp only [impl_areHashes.l0, impl_areHashes.l0b]
    refine ev_neg (by have : wrap64 ((0 : Int) + 1) = 1 := (by unfold wrap64; omega); rw [this]; simp) (ev_some (by simp [c']))
end Go.Proofs.YtbpcnodmgphinaaG
namespace Go.Proofs.YtbpcnodmgphinaaG
open Go Go.Proofs.YtbpcnodmgphinaaRv Go.RowKit
set_option linter.unusedVariables false
set_option linter.unusedSimpArgs false

structure By where
  z : Bool
  l : List Int
instance : Inhabited By := ⟨⟨false, []⟩⟩
def By.t (b : By) : T := .nums 5 .u8 b.z b.l
def By.cp (b : By) : By := ⟨false, b.l⟩
theorem by_at {l : List By} {i : Nat} (h : i < l.length) : (l.map By.t).getD i .bad = (l[i]).t := by simp [List.getD_eq_getElem?_getD, h]
theorem By.c0z (b : By) : (b.t.cells.getD 0 .bad).isNil = b.z := rfl
theorem By.c0 (b : By) : (b.t.cells.getD 0 .bad).toNums = b.l := rfl
def FitB (l : List By) : Prop := l.length ≤ 9223372036854775807 ∧ ∀ b ∈ l, b.l.length ≤ 9223372036854775807
def FewB (l : List By) : Prop := l.length ≤ 1048576 ∧ ∀ b ∈ l, okB b.l
theorem fewB_cp {l : List By} (h : FewB l) : FewB (l.map By.cp) := ⟨by simpa using h.1, fun r hr => by
  obtain ⟨x, hx, rfl⟩ := List.mem_map.1 hr
  exact h.2 x hx⟩
theorem laws_toByteSS.ev (z : Bool) (l : List By) (h : FewB l) : Ev (fun k => laws_toByteSS.f k z (l.map By.t)) (false, (l.map By.cp).map By.t) := by
  have hl : l.length ≤ 1048576 := h.1
  refine ev_step ?_
  simp only [laws_toByteSS.f, laws_toByteSS.b, List.length_map]
  refine ev_pos trivial (ev_pos (by omega) (ev_pos (by omega) ?_))
  have key : ∀ (d n : Nat) (ys : List T), n + d = l.length → ys.length = l.length → ys.take n = ((l.map By.cp).map By.t).take n → Ev (fun k => laws_toByteSS.l0 k z (l.map By.t) ys (n : Int)) (false, (l.map By.cp).map By.t) := by
    intro d
    induction d with
    | zero =>
      intro n ys hn hy ht
      refine ev_step ?_
      simp only [laws_toByteSS.l0, laws_toByteSS.l0b, List.length_map]
      refine ev_neg (by omega) (ev_some ?_)
      rw [List.take_of_length_le (by omega), List.take_of_length_le (by simp; omega)] at ht
      rw [ht]
    | succ d ih =>
      intro n ys hn hy ht
      have hlt : n < l.length := by omega
      refine ev_step ?_
      have i2 := ih (n + 1) (ys.set n (l[n].cp).t) (by omega) (by simp [hy]) (by
        rw [List.take_succ_eq_append_getElem (by simp; omega), List.take_succ_eq_append_getElem (by simp; omega), List.take_set_of_le (Nat.le_refl n), ht, List.getElem_set_self]
        simp)
      simp only [laws_toByteSS.l0, laws_toByteSS.l0b, List.length_map, succ_nat n (by omega), Int.toNat_natCast, by_at hlt, By.c0, By.c0z]
      exact ev_pos (by omega) (ev_pos (by omega) (ev_pos (by omega) (Ev.bind (laws_toByteS.ev l[n].z l[n].l (h.2 _ (List.getElem_mem hlt))) (ev_pos (by omega) (ev_pos (by omega) i2)))))
  exact key l.length 0 _ (by omega) (by simp) (by simp)
theorem laws_eqByteSS.ev (y z : Bool) (l : List By) (h : FewB l) : Ev (fun k => laws_eqByteSS.f k y (l.map By.t) z (l.map By.t)) true := by
  have hl : l.length ≤ 1048576 := h.1
  refine ev_step ?_
  simp only [laws_eqByteSS.f, laws_eqByteSS.b]
  refine ev_neg (by simp) ?_
  have key : ∀ (d n : Nat), n + d = l.length → Ev (fun k => laws_eqByteSS.l0 k y (l.map By.t) z (l.map By.t) (n : Int)) true := by
    intro d
    induction d with
    | zero =>
      intro n hn
      refine ev_step ?_
      simp only [laws_eqByteSS.l0, laws_eqByteSS.l0b, List.length_map]
      exact ev_neg (by omega) (ev_some rfl)
    | succ d ih =>
      intro n hn
      have hlt : n < l.length := by omega
      refine ev_step ?_
      simp only [laws_eqByteSS.l0, laws_eqByteSS.l0b, List.length_map, Int.toNat_natCast, by_at hlt, By.c0, By.c0z, succ_nat n (by omega)]
      exact ev_pos (by omega) (ev_pos (by omega) (ev_pos (by omega) (ev_pos (by omega) (ev_pos (by omega) (Ev.bind (laws_eqByteS.ev _ _ _ (h.2 _ (List.getElem_mem hlt))) (ev_neg (by simp) (ih (n + 1) (by omega))))))))
  exact key l.length 0 (by omega)
theorem getD_in {α : Type} [Inhabited α] {l : List α} {n : Nat} (h : n < l.length) : l.getD n default = l[n] := by simp [h]
structure QcV where
  v : Int
  h : Int
  bz : Bool
  blk : List Int
  mz : Bool
  bits : List Int
  tz : Bool
  tags : List By
structure Head where
  v : Int
  h : Int
  p : Int
  az : Bool
  par : List Int
  rz : Bool
  root : List Int
  q : QcV
instance : Inhabited Head := ⟨⟨0, 0, 0, false, [], false, [], ⟨0, 0, false, [], false, [], false, []⟩⟩⟩
def Head.t (x : Head) : T := .agg [.int .i64 x.v, .int .i64 x.h, .int .i64 x.p, .nums 5 .u8 x.az x.par, .nums 5 .u8 x.rz x.root, .int .i64 x.q.v, .int .i64 x.q.h, .nums 5 .u8 x.q.bz x.q.blk, .nums 5 .u8 x.q.mz x.q.bits, .sl 22 x.q.tz (x.q.tags.map By.t)]
theorem head_at {l : List Head} {i : Nat} (h : i < l.length) : (l.map Head.t).getD i .bad = (l[i]).t := by simp [List.getD_eq_getElem?_getD, h]
section
variable (x : Head)
theorem Head.c0 : (x.t.cells.getD 0 .bad).toInt = x.v := rfl
theorem Head.c1 : (x.t.cells.getD 1 .bad).toInt = x.h := rfl
theorem Head.c2 : (x.t.cells.getD 2 .bad).toInt = x.p := rfl
theorem Head.c3z : (x.t.cells.getD 3 .bad).isNil = x.az := rfl
theorem Head.c3 : (x.t.cells.getD 3 .bad).toNums = x.par := rfl
theorem Head.c4z : (x.t.cells.getD 4 .bad).isNil = x.rz := rfl
theorem Head.c4 : (x.t.cells.getD 4 .bad).toNums = x.root := rfl
theorem Head.c5 : (x.t.cells.getD 5 .bad).toInt = x.q.v := rfl
theorem Head.c6 : (x.t.cells.getD 6 .bad).toInt = x.q.h := rfl
theorem Head.c7z : (x.t.cells.getD 7 .bad).isNil = x.q.bz := rfl
theorem Head.c7 : (x.t.cells.getD 7 .bad).toNums = x.q.blk := rfl
theorem Head.c8z : (x.t.cells.getD 8 .bad).isNil = x.q.mz := rfl
theorem Head.c8 : (x.t.cells.getD 8 .bad).toNums = x.q.bits := rfl
theorem Head.c9z : (x.t.cells.getD 9 .bad).isNil = x.q.tz := rfl
theorem Head.c9 : (x.t.cells.getD 9 .bad).toList = x.q.tags.map By.t := rfl
end
def QcV.cp (q : QcV) : QcV := ⟨q.v, q.h, false, q.blk, false, q.bits, false, q.tags.map By.cp⟩
def Head.cp (x : Head) : Head := ⟨x.v, x.h, x.p, false, x.par, false, x.root, x.q.cp⟩
def QcV.fit (q : QcV) : Prop := q.blk.length ≤ 9223372036854775807 ∧ q.bits.length ≤ 9223372036854775807 ∧ FitB q.tags
def QcV.few (q : QcV) : Prop := okB q.blk ∧ okB q.bits ∧ FewB q.tags
def Head.fit (x : Head) : Prop := x.par.length ≤ 9223372036854775807 ∧ x.root.length ≤ 9223372036854775807 ∧ x.q.fit
def Head.few (x : Head) : Prop := okB x.par ∧ okB x.root ∧ x.q.few
theorem Head.few_cp {x : Head} (h : x.few) : x.cp.few := ⟨h.1, h.2.1, h.2.2.1, h.2.2.2.1, fewB_cp h.2.2.2.2⟩
def FitH (l : List Head) : Prop := l.length ≤ 9223372036854775807 ∧ ∀ x ∈ l, x.fit
def FewH (l : List Head) : Prop := l.length ≤ 1048576 ∧ ∀ x ∈ l, x.few
theorem fewH_cp {l : List Head} (h : FewH l) : FewH (l.map Head.cp) := ⟨by simpa using h.1, fun r hr => by
  obtain ⟨x, hx, rfl⟩ := List.mem_map.1 hr
  exact Head.few_cp (h.2 x hx)⟩
theorem laws_toQc.ev (q : QcV) (h : q.few) : Ev (fun k => laws_toQc.f k q.v q.h q.bz q.blk q.mz q.bits q.tz (q.tags.map By.t)) (q.v, q.h, false, q.blk, false, q.bits, false, (q.tags.map By.cp).map By.t) := by
  refine ev_step ?_
  simp only [laws_toQc.f, laws_toQc.b]
  exact Ev.bind (laws_toByteS.ev _ _ h.1) (Ev.bind (laws_toByteS.ev _ _ h.2.1) (Ev.bind (laws_toByteSS.ev _ _ h.2.2) (ev_some rfl)))
theorem laws_toHead.ev (x : Head) (h : x.few) : Ev (fun k => laws_toHead.f k x.v x.h x.p x.az x.par x.rz x.root x.q.v x.q.h x.q.bz x.q.blk x.q.mz x.q.bits x.q.tz (x.q.tags.map By.t)) (x.v, x.h, x.p, false, x.par, false, x.root, x.q.v, x.q.h, false, x.q.blk, false, x.q.bits, false, (x.q.tags.map By.cp).map By.t) := by
  refine ev_step ?_
  simp only [laws_toHead.f, laws_toHead.b]
  exact Ev.bind (laws_toByteS.ev _ _ h.1) (Ev.bind (laws_toByteS.ev _ _ h.2.1) (Ev.bind (laws_toQc.ev _ h.2.2) (ev_some rfl)))
theorem laws_toHeadS.ev (z : Bool) (l : List Head) (h : FewH l) : Ev (fun k => laws_toHeadS.f k z (l.map Head.t)) (false, (l.map Head.cp).map Head.t) := by
  have hl : l.length ≤ 1048576 := h.1
  refine ev_step ?_
  simp only [laws_toHeadS.f, laws_toHeadS.b, List.length_map]
  refine ev_pos trivial (ev_pos (by omega) (ev_pos (by omega) ?_))
  have key : ∀ (d n : Nat) (ys : List T), n + d = l.length → ys.length = l.length → ys.take n = ((l.map Head.cp).map Head.t).take n → Ev (fun k => laws_toHeadS.l0 k z (l.map Head.t) ys (n : Int)) (false, (l.map Head.cp).map Head.t) := by
    intro d
    induction d with
    | zero =>
      intro n ys hn hy ht
      refine ev_step ?_
      simp only [laws_toHeadS.l0, laws_toHeadS.l0b, List.length_map]
      refine ev_neg (by omega) (ev_some ?_)
      rw [List.take_of_length_le (by omega), List.take_of_length_le (by simp; omega)] at ht
      rw [ht]
    | succ d ih =>
      intro n ys hn hy ht
      have hlt : n < l.length := by omega
      refine ev_step ?_
      have i2 := ih (n + 1) (ys.set n (l[n].cp).t) (by omega) (by simp [hy]) (by
        rw [List.take_succ_eq_append_getElem (by simp; omega), List.take_succ_eq_append_getElem (by simp; omega), List.take_set_of_le (Nat.le_refl n), ht, List.getElem_set_self]
        simp)
      simp only [laws_toHeadS.l0, laws_toHeadS.l0b, List.length_map, succ_nat n (by omega), Int.toNat_natCast, head_at hlt, Head.c0, Head.c1, Head.c2, Head.c3z, Head.c3, Head.c4z, Head.c4, Head.c5, Head.c6, Head.c7z, Head.c7, Head.c8z, Head.c8, Head.c9z, Head.c9]
      exact ev_pos (by omega) (ev_pos (by omega) (ev_pos (by omega) (Ev.bind (laws_toHead.ev l[n] (h.2 _ (List.getElem_mem hlt))) (ev_pos (by omega) (ev_pos (by omega) i2)))))
  exact key l.length 0 _ (by omega) (by simp) (by simp)
theorem laws_eqQc.ev (q : QcV) (h : q.few) : Ev (fun k => laws_eqQc.f k q.v q.h q.bz q.blk q.mz q.bits q.tz (q.tags.map By.t) q.v q.h q.bz q.blk q.mz q.bits q.tz (q.tags.map By.t)) true := by
  refine ev_step ?_
  simp only [laws_eqQc.f, laws_eqQc.b]
  exact ev_neg (by simp) (ev_neg (by simp) (Ev.bind (laws_eqByteS.ev _ _ _ h.1) (ev_neg (by simp) (Ev.bind (laws_eqByteS.ev _ _ _ h.2.1) (ev_neg (by simp) (Ev.bind (laws_eqByteSS.ev _ _ _ h.2.2) (ev_neg (by simp) (ev_some rfl))))))))
theorem laws_eqHead.ev (x : Head) (h : x.few) : Ev (fun k => laws_eqHead.f k x.v x.h x.p x.az x.par x.rz x.root x.q.v x.q.h x.q.bz x.q.blk x.q.mz x.q.bits x.q.tz (x.q.tags.map By.t) x.v x.h x.p x.az x.par x.rz x.root x.q.v x.q.h x.q.bz x.q.blk x.q.mz x.q.bits x.q.tz (x.q.tags.map By.t)) true := by
  refine ev_step ?_
  simp only [laws_eqHead.f, laws_eqHead.b]
  exact ev_neg (by simp) (ev_neg (by simp) (ev_neg (by simp) (Ev.bind (laws_eqByteS.ev _ _ _ h.1) (ev_neg (by simp) (Ev.bind (laws_eqByteS.ev _ _ _ h.2.1) (ev_neg (by simp) (Ev.bind (laws_eqQc.ev _ h.2.2) (ev_neg (by simp) (ev_some rfl)))))))))
theorem laws_eqHeadS.ev (y z : Bool) (l : List Head) (h : FewH l) : Ev (fun k => laws_eqHeadS.f k y (l.map Head.t) z (l.map Head.t)) true := by
  have hl : l.length ≤ 1048576 := h.1
  refine ev_step ?_
  simp only [laws_eqHeadS.f, laws_eqHeadS.b]
  refine ev_neg (by simp) ?_
  have key : ∀ (d n : Nat), n + d = l.length → Ev (fun k => laws_eqHeadS.l0 k y (l.map Head.t) z (l.map Head.t) (n : Int)) true := by
    intro d
    induction d with
    | zero =>
      intro n hn
      refine ev_step ?_
      simp only [laws_eqHeadS.l0, laws_eqHeadS.l0b, List.length_map]
      exact ev_neg (by omega) (ev_some rfl)
    | succ d ih =>
      intro n hn
      have hlt : n < l.length := by omega
      refine ev_step ?_
      simp only [laws_eqHeadS.l0, laws_eqHeadS.l0b, List.length_map, Int.toNat_natCast, head_at hlt, Head.c0, Head.c1, Head.c2, Head.c3z, Head.c3, Head.c4z, Head.c4, Head.c5, Head.c6, Head.c7z, Head.c7, Head.c8z, Head.c8, Head.c9z, Head.c9, succ_nat n (by omega)]
      exact ev_pos (by omega) (ev_pos (by omega) (ev_pos (by omega) (ev_pos (by omega) (ev_pos (by omega) (Ev.bind (laws_eqHead.ev _ (h.2 _ (List.getElem_mem hlt))) (ev_neg (by simp) (ih (n + 1) (by omega))))))))
  exact key l.length 0 (by omega)
end Go.Proofs.YtbpcnodmgphinaaG
namespace Go.Proofs.YtbpcnodmgphinaaG
open Go Go.Proofs.YtbpcnodmgphinaaRv Go.RowKit
set_option linter.unusedVariables false
set_option linter.unusedSimpArgs false

structure Light where
  l0 : Int
  l1 : Int
  l2 : Int
  l3 : Int
  l4 : Int
  rz : Bool
  rows : List Row
  skip : Int
  bz : Bool
  buf : List Int
  cz : Bool
  chain : List Head
def Light.cp (x : Light) : Light := ⟨x.l0, x.l1, x.l2, x.l3, x.l4, false, x.rows.map Row.cp, x.skip, false, x.buf, false, x.chain.map Head.cp⟩
def Light.fit (x : Light) : Prop := Fit x.rows ∧ x.buf.length ≤ 9223372036854775807 ∧ FitH x.chain
def Light.few (x : Light) : Prop := Few x.rows ∧ okB x.buf ∧ FewH x.chain
theorem laws_toLimits.ev (a b c d e : Int) : Ev (fun k => laws_toLimits.f k a b c d e) (a, b, c, d, e) := by
  refine ev_step ?_
  simp only [laws_toLimits.f, laws_toLimits.b]
  exact ev_some rfl
theorem laws_eqLimits.ev (a b c d e : Int) : Ev (fun k => laws_eqLimits.f k a b c d e a b c d e) true := by
  refine ev_step ?_
  simp only [laws_eqLimits.f, laws_eqLimits.b]
  exact ev_neg (by simp) (ev_neg (by simp) (ev_neg (by simp) (ev_neg (by simp) (ev_neg (by simp) (ev_some rfl)))))
end Go.Proofs.YtbpcnodmgphinaaG
namespace Go.Proofs.YtbpcnodmgphinaaG
open Go Go.Proofs.YtbpcnodmgphinaaRv Go.RowKit
set_option linter.unusedVariables false
set_option linter.unusedSimpArgs false


def okM (a : Int) : Prop := 0 ≤ a ∧ a ≤ 4611686018427387904
theorem mk8_rd {L : Nat} {a : Int} {i : Nat} (h : i < L) : rdI (mk8 L a) (i : Int) = (a + i) % 256 := mk8_get h
theorem wmk (a : Int) (h : okM a) (n : Nat) (hn : n ≤ 1099511627776) : wrap64 (a + (n : Int) + 1) = a + ((n + 1 : Nat) : Int) := by
  obtain ⟨h0, h1⟩ := h
  unfold wrap64; omega
theorem laws_markByteS.ev (z : Bool) (l : List Int) (h : okB l) (a : Int) (ha : okM a) : Ev (fun k => laws_markByteS.f k z l a) (a + l.length, z, mk8 l.length a) := by
  have hl : l.length ≤ 1048576 := h
  refine ev_step ?_
  simp only [laws_markByteS.f, laws_markByteS.b]
  have key : ∀ (d n : Nat) (ys : List Int), n + d = l.length → ys.length = l.length → ys.take n = (mk8 l.length a).take n → Ev (fun k => laws_markByteS.l0 k z ys (a + (n : Int)) (n : Int)) (a + l.length, z, mk8 l.length a) := by
    intro d
    induction d with
    | zero =>
      intro n ys hn hy ht
      refine ev_step ?_
      simp only [laws_markByteS.l0, laws_markByteS.l0b]
      refine ev_neg (by omega) (ev_some ?_)
      obtain rfl : n = l.length := by omega
      have e1 : (mk8 l.length a).take l.length = mk8 l.length a := List.take_of_length_le (by rw [mk8_length]; omega)
      rw [← hy, List.take_length, hy, e1] at ht
      rw [ht]
    | succ d ih =>
      intro n ys hn hy ht
      have hlt : n < l.length := by omega
      have hm : n < (mk8 l.length a).length := by rw [mk8_length]; exact hlt
      have i2 := ih (n + 1) (ys.set n ((a + (n : Int)) % 256)) (by omega) (by simp [hy]) (by
        rw [List.take_succ_eq_append_getElem (by simp; omega), List.take_succ_eq_append_getElem hm, List.take_set_of_le (Nat.le_refl n), ht, List.getElem_set_self]
        simp [mk8])
      refine ev_step ?_
      simp only [laws_markByteS.l0, laws_markByteS.l0b, Int.toNat_natCast, succ_nat n (by omega), wmk a ha n (by omega)]
      exact ev_pos (by omega) (ev_pos (by omega) (ev_pos (by omega) i2))
  have := key l.length 0 l (by omega) rfl (by simp)
  simpa using this
theorem laws_heldByteS.ev (z : Bool) (L : Nat) (h : L ≤ 1048576) (a : Int) (ha : okM a) : Ev (fun k => laws_heldByteS.f k z (mk8 L a) a) (a + L) := by
  refine ev_step ?_
  simp only [laws_heldByteS.f, laws_heldByteS.b]
  have key : ∀ (d n : Nat), n + d = L → Ev (fun k => laws_heldByteS.l0 k z (mk8 L a) (a + (n : Int)) (n : Int)) (a + L) := by
    intro d
    induction d with
    | zero =>
      intro n hn
      refine ev_step ?_
      simp only [laws_heldByteS.l0, laws_heldByteS.l0b, mk8_length]
      refine ev_neg (by omega) (ev_some ?_)
      obtain rfl : n = L := by omega
      rfl
    | succ d ih =>
      intro n hn
      have hlt : n < L := by omega
      refine ev_step ?_
      simp only [laws_heldByteS.l0, laws_heldByteS.l0b, mk8_length, mk8_rd hlt, succ_nat n (by omega), wmk a ha n (by omega)]
      exact ev_pos (by omega) (ev_pos (by omega) (ev_pos (by omega) (ev_neg (by simp) (ih (n + 1) (by omega)))))
  have := key L 0 (by omega)
  simpa using this


def CntR {α : Type} (a : Int) (m : Nat) (g : Nat → Option (Int × α)) : Prop := ∃ p, Ev g p ∧ a ≤ p.1 ∧ p.1 ≤ a + m
theorem getD_self {α : Type} {l : List α} {n : Nat} {d v : α} (h : n < l.length) : (l.set n v).getD n d = v := by simp [List.getD_eq_getElem?_getD, h]
theorem drop_set_lt {α : Type} {l : List α} {n m : Nat} {v : α} (h : n < m) : (l.set n v).drop m = l.drop m := List.drop_set_of_lt h
theorem getD_of_drop {α β : Type} {f : α → β} {ys : List β} {l : List α} {n : Nat} {d : β} (h : ys.drop n = (l.map f).drop n) (hn : n < l.length) : ys.getD n d = f l[n] := by
  have := congrArg (fun q => q[0]?) h
  simp only [List.getElem?_drop, Nat.add_zero] at this
  rw [List.getD_eq_getElem?_getD, this]
  simp [hn]


end Go.Proofs.YtbpcnodmgphinaaG
namespace Go.Proofs.YtbpcnodmgphinaaG
open Go Go.Proofs.YtbpcnodmgphinaaRv Go.RowKit
set_option linter.unusedVariables false
set_option linter.unusedSimpArgs false

structure Sl (α : Type) where
  z : Bool
  l : List α
def goodI (n : Int) : Prop := (Lit.int .i64 n).wf = true
def By.good (b : By) : Prop := b.l.length ≤ 9223372036854775807 ∧ ∀ n ∈ b.l, (Lit.int .u8 n).wf = true
def GoodL {α : Type} (g : α → Prop) (l : List α) : Prop := l.length ≤ 9223372036854775807 ∧ ∀ x ∈ l, g x
def Row.good (r : Row) : Prop := goodI r.f0 ∧ By.good ⟨r.z, r.f1⟩
def Tab.good (x : Sl Row) : Prop := GoodL Row.good x.l
def QcV.good (q : QcV) : Prop := goodI q.v ∧ goodI q.h ∧ By.good ⟨q.bz, q.blk⟩ ∧ By.good ⟨q.mz, q.bits⟩ ∧ GoodL By.good q.tags
def Head.good (h : Head) : Prop := goodI h.v ∧ goodI h.h ∧ goodI h.p ∧ By.good ⟨h.az, h.par⟩ ∧ By.good ⟨h.rz, h.root⟩ ∧ h.q.good
theorem By.bytes {b : By} (h : b.good) : bytesOk b.l := fun x hx => wf8 (h.2 x hx)
theorem goodI_bd {n : Int} (h : goodI n) : -9223372036854775808 ≤ n ∧ n ≤ 9223372036854775807 := wf64 h
theorem fitB_of {l : List By} (h : GoodL By.good l) : FitB l := ⟨h.1, fun b hb => (h.2 b hb).1⟩
def BytesL (l : List By) : Prop := ∀ b ∈ l, bytesOk b.l
theorem bytes_of {l : List By} (h : GoodL By.good l) : BytesL l := fun b hb => By.bytes (h.2 b hb)
theorem QcV.fit_of {q : QcV} (h : q.good) : q.fit := ⟨h.2.2.1.1, h.2.2.2.1.1, fitB_of h.2.2.2.2⟩
def QcV.byt (q : QcV) : Prop := bytesOk q.blk ∧ bytesOk q.bits ∧ BytesL q.tags
theorem QcV.byt_of {q : QcV} (h : q.good) : q.byt := ⟨By.bytes h.2.2.1, By.bytes h.2.2.2.1, bytes_of h.2.2.2.2⟩
def Head.byt (h : Head) : Prop := bytesOk h.par ∧ bytesOk h.root ∧ h.q.byt
theorem Head.fit_of {h : Head} (g : h.good) : h.fit := ⟨g.2.2.2.1.1, g.2.2.2.2.1.1, QcV.fit_of g.2.2.2.2.2⟩
theorem Head.byt_of {h : Head} (g : h.good) : h.byt := ⟨By.bytes g.2.2.2.1, By.bytes g.2.2.2.2.1, QcV.byt_of g.2.2.2.2.2⟩
theorem fitH_of {l : List Head} (h : GoodL Head.good l) : FitH l := ⟨h.1, fun x hx => Head.fit_of (h.2 x hx)⟩
def BytH (l : List Head) : Prop := ∀ x ∈ l, x.byt
theorem bytH_of {l : List Head} (h : GoodL Head.good l) : BytH l := fun x hx => Head.byt_of (h.2 x hx)


structure Vt where
  v : Int
  h : Int
  bz : Bool
  blk : List Int
  who : Int
  tz : Bool
  tag : List Int
instance : Inhabited Vt := ⟨⟨0, 0, false, [], 0, false, []⟩⟩
def Vt.t (x : Vt) : T := .agg [.int .i64 x.v, .int .i64 x.h, .nums 5 .u8 x.bz x.blk, .int .i64 x.who, .nums 5 .u8 x.tz x.tag]
theorem Vt.c0 (x : Vt) : (x.t.cells.getD 0 .bad).toInt = x.v := rfl
theorem Vt.c1 (x : Vt) : (x.t.cells.getD 1 .bad).toInt = x.h := rfl
theorem Vt.c2 (x : Vt) : (x.t.cells.getD 2 .bad).toNums = x.blk := rfl
theorem Vt.c3 (x : Vt) : (x.t.cells.getD 3 .bad).toInt = x.who := rfl
theorem Vt.c4 (x : Vt) : (x.t.cells.getD 4 .bad).toNums = x.tag := rfl
def Vt.good (x : Vt) : Prop := goodI x.v ∧ goodI x.h ∧ By.good ⟨x.bz, x.blk⟩ ∧ goodI x.who ∧ By.good ⟨x.tz, x.tag⟩
def Vt.cp (x : Vt) : Vt := ⟨x.v, x.h, false, x.blk, x.who, false, x.tag⟩
structure En where
  who : Int
  high : Int
  tz : Bool
  tag : List Int
instance : Inhabited En := ⟨⟨0, 0, false, []⟩⟩
def En.t (x : En) : T := .agg [.int .i64 x.who, .int .i64 x.high, .nums 5 .u8 x.tz x.tag]
theorem En.c0 (x : En) : (x.t.cells.getD 0 .bad).toInt = x.who := rfl
theorem En.c1 (x : En) : (x.t.cells.getD 1 .bad).toInt = x.high := rfl
theorem En.c2 (x : En) : (x.t.cells.getD 2 .bad).toNums = x.tag := rfl
def En.good (x : En) : Prop := goodI x.who ∧ goodI x.high ∧ By.good ⟨x.tz, x.tag⟩
def En.cp (x : En) : En := ⟨x.who, x.high, false, x.tag⟩

structure Lm where
  l0 : Int
  l1 : Int
  l2 : Int
  l3 : Int
  l4 : Int
def Lm.good (x : Lm) : Prop := goodI x.l0 ∧ goodI x.l1 ∧ goodI x.l2 ∧ goodI x.l3 ∧ goodI x.l4
structure TcV where
  v : Int
  ez : Bool
  ents : List En
def TcV.good (x : TcV) : Prop := goodI x.v ∧ GoodL En.good x.ents
structure Ps where
  skip : Int
  z : Bool
  buf : List Int
def Ps.good (x : Ps) : Prop := goodI x.skip ∧ By.good ⟨x.z, x.buf⟩
def Light.good (x : Light) : Prop := Lm.good ⟨x.l0, x.l1, x.l2, x.l3, x.l4⟩ ∧ GoodL Row.good x.rows ∧ Ps.good ⟨x.skip, x.bz, x.buf⟩ ∧ GoodL Head.good x.chain
structure Fo where
  l0 : Int
  l1 : Int
  l2 : Int
  l3 : Int
  l4 : Int
  hz : Bool
  heads : List Head
def Fo.good (x : Fo) : Prop := Lm.good ⟨x.l0, x.l1, x.l2, x.l3, x.l4⟩ ∧ GoodL Head.good x.heads
structure Pf where
  hz : Bool
  heads : List Head
  q : QcV
def Pf.good (x : Pf) : Prop := GoodL Head.good x.heads ∧ x.q.good
end Go.Proofs.YtbpcnodmgphinaaG
namespace Go.Proofs.YtbpcnodmgphinaaG
open Go Go.Proofs.YtbpcnodmgphinaaRv Go.RowKit
set_option linter.unusedVariables false
set_option linter.unusedSimpArgs false

theorem tdiv_nat (n m : Nat) : Int.tdiv (n : Int) (m : Int) = ((n / m : Nat) : Int) := by
  rw [Int.tdiv_eq_ediv_of_nonneg (by omega)]
  exact (Int.natCast_ediv n m).symm
theorem tmod_nat (n m : Nat) : Int.tmod (n : Int) (m : Int) = ((n % m : Nat) : Int) := by
  rw [Int.tmod_eq_emod_of_nonneg (by omega)]
  exact (Int.natCast_emod n m).symm
theorem w64n {n : Nat} (h : n ≤ 9223372036854775807) : wrap64 (n : Int) = (n : Int) := w64 (by omega) (by omega)

def bitAt (b : List Int) (i : Nat) : Bool := rdI b ((i / 8 : Nat) : Int) / 2 ^ (i % 8) % 2 == 1
theorem bitAt_out {b : List Int} {i : Nat} (h : 8 * b.length ≤ i) : bitAt b i = false := by
  have : b.length ≤ i / 8 := by omega
  have e : rdI b ((i / 8 : Nat) : Int) = 0 := by
    unfold rdI
    rw [toNat_nat, List.getD_eq_getElem?_getD, List.getElem?_eq_none this]
    rfl
  unfold bitAt
  rw [e]
  simp
theorem rd_nice {l : List Int} (h : niceB l) (i : Int) : 0 ≤ rdI l i ∧ rdI l i < 256 := by
  unfold rdI
  rw [List.getD_eq_getElem?_getD]
  cases e : l[i.toNat]? with
  | none => simp
  | some x => exact h.2 x (List.mem_of_getElem? e)
theorem u8_and1 {x : Int} (h0 : 0 ≤ x) (h1 : x < 256) : Go.bits .and .u8 x 1 = x % 2 := bits_mask .u8 8 (by decide) wraps_u8 1 (by decide) x h0 h1
theorem div_pow_bd {x : Int} (h0 : 0 ≤ x) (h1 : x < 256) (m : Nat) : 0 ≤ x / 2 ^ m ∧ x / 2 ^ m < 256 := by
  have hp : (0 : Int) < 2 ^ m := Int.pow_pos (by decide)
  refine ⟨Int.ediv_nonneg h0 (Int.le_of_lt hp), ?_⟩
  have := Int.ediv_le_self (2 ^ m) h0
  omega

def bitsFrom (b : List Int) : Nat → Nat → List Nat
  | _, 0 => []
  | i, m + 1 => if bitAt b i = true then i :: bitsFrom b (i + 1) m else bitsFrom b (i + 1) m

def bitsList (b : List Int) : List Int := (bitsFrom b 0 (8 * b.length)).map fun (n : Nat) => (n : Int)
theorem bitsFrom_bd (b : List Int) : ∀ (m i : Nat) (x : Nat), x ∈ bitsFrom b i m → i ≤ x ∧ x < i + m
  | 0, i, x, h => by simp [bitsFrom] at h
  | m + 1, i, x, h => by
    unfold bitsFrom at h
    split at h
    · rcases List.mem_cons.1 h with rfl | h
      · omega
      · have := bitsFrom_bd b m (i + 1) x h
        omega
    · have := bitsFrom_bd b m (i + 1) x h
      omega
theorem bitsFrom_length (b : List Int) : ∀ (m i : Nat), (bitsFrom b i m).length ≤ m
  | 0, i => by simp [bitsFrom]
  | m + 1, i => by
    have := bitsFrom_length b m (i + 1)
    unfold bitsFrom
    split
    · simp only [List.length_cons]; omega
    · omega
theorem bitsList_length (b : List Int) : (bitsList b).length ≤ 8 * b.length := by
  unfold bitsList
  rw [List.length_map]
  exact bitsFrom_length b _ _
def bitsSize (n : Int) : Int := if n < 1 then 0 else (n - 1) / 8 + 1

def bitsOk (b : List Int) (n : Int) : Bool := decide (1 ≤ n ∧ n ≤ 10) && (decide ((b.length : Int) = bitsSize n) && (bitsList b).all fun i => decide (i < n))
theorem bitsOk_iff {b : List Int} {n : Int} : bitsOk b n = true ↔ (1 ≤ n ∧ n ≤ 10) ∧ (b.length : Int) = bitsSize n ∧ ∀ i ∈ bitsList b, i < n := by
  simp [bitsOk, and_assoc]
theorem bitsOk_len {b : List Int} {n : Int} (h : bitsOk b n = true) : b.length ≤ 2 := by
  obtain ⟨h1, h2, _⟩ := bitsOk_iff.1 h
  unfold bitsSize at h2
  split at h2 <;> omega
theorem bitsFrom_last (b : List Int) : ∀ (m i : Nat) (h : bitsFrom b i m ≠ []), ∀ x ∈ bitsFrom b i m, x ≤ (bitsFrom b i m).getLast h
  | 0, i, h, x, hx => by simp [bitsFrom] at hx
  | m + 1, i, h, x, hx => by
    by_cases c : bitAt b i = true
    · have e : bitsFrom b i (m + 1) = i :: bitsFrom b (i + 1) m := by rw [bitsFrom, if_pos c]
      by_cases n : bitsFrom b (i + 1) m = []
      · have : bitsFrom b i (m + 1) = [i] := by rw [e, n]
        simp only [this, List.mem_singleton] at hx
        simp only [this, List.getLast_singleton]
        omega
      · have l : (bitsFrom b i (m + 1)).getLast h = (bitsFrom b (i + 1) m).getLast n := by simp only [e, List.getLast_cons n]
        rw [l]
        rw [e] at hx
        rcases List.mem_cons.1 hx with rfl | hx
        · have := bitsFrom_bd b m (x + 1) _ (List.getLast_mem n)
          omega
        · exact bitsFrom_last b m (i + 1) n x hx
    · have e : bitsFrom b i (m + 1) = bitsFrom b (i + 1) m := by rw [bitsFrom, if_neg c]
      have n : bitsFrom b (i + 1) m ≠ [] := by rw [← e]; exact h
      have l : (bitsFrom b i (m + 1)).getLast h = (bitsFrom b (i + 1) m).getLast n := by simp only [e]
      rw [l]
      rw [e] at hx
      exact bitsFrom_last b m (i + 1) n x hx
theorem bitsList_last (b : List Int) (h : bitsList b ≠ []) : ∀ x ∈ bitsList b, x ≤ (bitsList b).getLast h := by
  intro x hx
  have h' : bitsFrom b 0 (8 * b.length) ≠ [] := by intro e; apply h; simp [bitsList, e]
  have l : (bitsList b).getLast h = (((bitsFrom b 0 (8 * b.length)).getLast h' : Nat) : Int) := by simp only [bitsList, List.getLast_map]
  unfold bitsList at hx
  obtain ⟨n, hn, rfl⟩ := List.mem_map.1 hx
  have := bitsFrom_last b _ _ h' n hn
  rw [l]
  omega
theorem all_lt_last (b : List Int) (n : Int) : ((bitsList b).all fun i => decide (i < n)) = (if h : bitsList b = [] then true else decide ((bitsList b).getLast h < n)) := by
  split
  · rename_i h
    rw [h]
    rfl
  · rename_i h
    rw [Bool.eq_iff_iff, List.all_eq_true]
    simp only [decide_eq_true_eq]
    exact ⟨fun g => g _ (List.getLast_mem h), fun g x hx => by have := bitsList_last b h x hx; omega⟩

theorem bitAt_test {b : List Int} (h : niceB b) (i : Nat) : bitAt b i = (rdI b ((i / 8 : Nat) : Int)).toNat.testBit (i % 8) := by
  have q := rd_nice h ((i / 8 : Nat) : Int)
  unfold bitAt
  rw [Nat.testBit_eq_decide_div_mod_eq]
  obtain ⟨n, hn⟩ := Int.eq_ofNat_of_zero_le q.1
  rw [hn]
  have : ((n : Int) / 2 ^ (i % 8)) % 2 = ((n / 2 ^ (i % 8) % 2 : Nat) : Int) := by
    rw [Int.natCast_emod, Int.natCast_ediv, Int.natCast_pow]
    rfl
  rw [this, toNat_nat]
  by_cases c : n / 2 ^ (i % 8) % 2 = 1
  · rw [c]; rfl
  · rw [decide_eq_false c]
    have : n / 2 ^ (i % 8) % 2 = 0 := by omega
    rw [this]; rfl
def bitCount (b : List Int) : Nat := (bitsFrom b 0 (8 * b.length)).length
def pop8 (n : Nat) : Nat := ((List.range 8).filter fun j => n.testBit j).length
theorem bitsFrom_count (b : List Int) : ∀ (m i : Nat), (bitsFrom b i m).length = ((List.range m).filter fun j => bitAt b (i + j)).length
  | 0, i => rfl
  | m + 1, i => by
    have ih := bitsFrom_count b m (i + 1)
    have e : ((List.range m).map (fun j => j + 1)).filter (fun j => bitAt b (i + j)) = ((List.range m).filter fun j => bitAt b (i + 1 + j)).map (fun j => j + 1) := by
      rw [List.filter_map]
      congr 1
      apply List.filter_congr
      intro x _
      show bitAt b (i + (x + 1)) = _
      congr 1
      omega
    rw [List.range_succ_eq_map]
    unfold bitsFrom
    show _ = (List.filter _ (0 :: (List.range m).map (fun j => j + 1))).length
    rw [List.filter_cons, e, Nat.add_zero]
    cases c : bitAt b i <;> simp [ih]
theorem bitsFrom_split (b : List Int) : ∀ (m i d : Nat), bitsFrom b i (m + d) = bitsFrom b i m ++ bitsFrom b (i + m) d
  | 0, i, d => by rw [Nat.zero_add]; rfl
  | m + 1, i, d => by
    have ih := bitsFrom_split b m (i + 1) d
    rw [show m + 1 + d = (m + d) + 1 by omega, show i + (m + 1) = i + 1 + m by omega]
    have e1 : bitsFrom b i ((m + d) + 1) = if bitAt b i = true then i :: bitsFrom b (i + 1) (m + d) else bitsFrom b (i + 1) (m + d) := rfl
    have e2 : bitsFrom b i (m + 1) = if bitAt b i = true then i :: bitsFrom b (i + 1) m else bitsFrom b (i + 1) m := rfl
    rw [e1, e2, ih]
    cases bitAt b i <;> simp
theorem pop_byte {b : List Int} (h : niceB b) {i : Nat} (hi : i < b.length) : (bitsFrom b (8 * i) 8).length = pop8 (b[i]).toNat := by
  rw [bitsFrom_count]
  unfold pop8
  congr 1
  apply List.filter_congr
  intro j hj
  have hj := List.mem_range.1 hj
  rw [bitAt_test h, show (8 * i + j) / 8 = i by omega, show (8 * i + j) % 8 = j by omega, rd_nat hi]


end Go.Proofs.YtbpcnodmgphinaaG
namespace Go.Proofs.YtbpcnodmgphinaaG
open Go Go.Proofs.YtbpcnodmgphinaaRv Go.RowKit
set_option linter.unusedVariables false
set_option linter.unusedSimpArgs false

theorem spec_LimitsOk.ev (a b c d e : Int) : Ev (fun k => spec_LimitsOk.f k a b c d e) (limitsOk a b c d e) := by
  refine ev_step ?_
  simp only [spec_LimitsOk.f, spec_LimitsOk.b]
  refine Ev.bind (spec_l02Signers.ev _) (ev_ite (fun c1 => Ev.bind (spec_l01In.ev _ _ _) (ev_ite (fun c2 => Ev.bind (spec_l01In.ev _ _ _) (ev_ite (fun c3 => Ev.bind (spec_l01In.ev _ _ _) (ev_ite (fun c4 => Ev.bind (spec_l01In.ev _ _ _) (ev_some ?_)) fun c4 => ev_some ?_)) fun c3 => ev_some ?_)) fun c2 => ev_some ?_)) fun c1 => ev_some ?_)
  all_goals (simp_all [limitsOk]; try omega)
theorem impl_LimitsOk.ev (a b c d e : Int) : Ev (fun k => impl_LimitsOk.f k a b c d e) (limitsOk a b c d e) := by
  refine ev_step ?_
  simp only [impl_LimitsOk.f, impl_LimitsOk.b]
  refine Ev.bind (impl_within.ev _ _ _) (ev_ite (fun c1 => Ev.bind (impl_within.ev _ _ _) (ev_ite (fun c2 => Ev.bind (impl_within.ev _ _ _) (ev_ite (fun c3 => Ev.bind (impl_within.ev _ _ _) (ev_ite (fun c4 => Ev.bind (impl_within.ev _ _ _) (ev_some ?_)) fun c4 => ev_some ?_)) fun c3 => ev_some ?_)) fun c2 => ev_some ?_)) fun c1 => ev_some ?_)
  all_goals (simp_all [limitsOk]; try omega)
theorem limitsOk_n {a b c d e : Int} (h : limitsOk a b c d e = true) : 1 ≤ a ∧ a ≤ 10 := by simp [limitsOk] at h; omega


theorem spec_BitsSize.ev (n : Int) (h : i64r n) : Ev (fun k => spec_BitsSize.f k n) (bitsSize n) := by
  have h' : -9223372036854775808 ≤ n ∧ n ≤ 9223372036854775807 := h
  refine ev_step ?_
  simp only [spec_BitsSize.f, spec_BitsSize.b]
  unfold bitsSize
  refine ev_ite (fun c => ev_some (by rw [if_pos c])) fun c => ev_some ?_
  rw [if_neg c, w64 (n := n - 1) (by omega) (by omega), Int.tdiv_eq_ediv_of_nonneg (by omega), w64 (n := (n - 1) / 8) (by omega) (by omega), w64 (by omega) (by omega)]
theorem impl_BitsSize.ev (n : Int) (h : i64r n) : Ev (fun k => impl_BitsSize.f k n) (bitsSize n) := by
  have h' : -9223372036854775808 ≤ n ∧ n ≤ 9223372036854775807 := h
  refine ev_step ?_
  simp only [impl_BitsSize.f, impl_BitsSize.b]
  unfold bitsSize
  refine ev_ite (fun c => ev_some (by rw [if_pos c])) fun c => ev_some ?_
  rw [if_neg c, w64 (n := n - 1) (by omega) (by omega), Int.tdiv_eq_ediv_of_nonneg (by omega), w64 (n := (n - 1) / 8) (by omega) (by omega), w64 (by omega) (by omega)]
theorem impl_BitsHas.ev (z : Bool) (b : List Int) (h : niceB b) (i : Nat) (hi : i ≤ 4611686018427387904) : Ev (fun k => impl_BitsHas.f k z b (i : Int)) (bitAt b i) := by
  have hl := h.1
  have e8 : Int.tdiv (i : Int) 8 = ((i / 8 : Nat) : Int) := tdiv_nat i 8
  have m8 : Int.tmod (i : Int) 8 = ((i % 8 : Nat) : Int) := tmod_nat i 8
  refine ev_step ?_
  simp only [impl_BitsHas.f, impl_BitsHas.b]
  rw [w64 (n := 8 * (b.length : Int)) (by omega) (by omega), w64 (n := 8 * (b.length : Int) - 1) (by omega) (by omega), e8, m8, w64n (by omega)]
  refine Ev.bind (impl_within.ev _ _ _) (ev_ite (fun c => ?_) fun c => ?_)
  · have c' : (0 : Int) ≤ (i : Int) ∧ (i : Int) ≤ 8 * (b.length : Int) - 1 := by simpa using c
    refine ev_pos (by omega) (ev_pos (by omega) (ev_pos (by omega) (ev_some ?_)))
    have q := rd_nice h ((i / 8 : Nat) : Int)
    have e : shrI .u8 (rdI b ((i / 8 : Nat) : Int)) ((i % 8 : Nat) : Int) = rdI b ((i / 8 : Nat) : Int) / 2 ^ (i % 8) := by
      unfold shrI
      rw [toNat_nat, Nat.min_eq_left (by show i % 8 ≤ 8; omega)]
    have d := div_pow_bd q.1 q.2 (i % 8)
    rw [e, u8_and1 d.1 d.2]
    unfold bitAt
    rw [Bool.eq_iff_iff]; simp
  · have c' : ¬ ((0 : Int) ≤ (i : Int) ∧ (i : Int) ≤ 8 * (b.length : Int) - 1) := by simpa using c
    exact ev_some (bitAt_out (by omega)).symm
theorem spec_BitsHas.ev (z : Bool) (b : List Int) (h : niceB b) (i : Nat) (hi : i ≤ 4611686018427387904) : Ev (fun k => spec_BitsHas.f k z b (i : Int)) (bitAt b i) := by
  have hl := h.1
  have e8 : Int.tdiv (i : Int) 8 = ((i / 8 : Nat) : Int) := tdiv_nat i 8
  have m8 : Int.tmod (i : Int) 8 = ((i % 8 : Nat) : Int) := tmod_nat i 8
  have q := rd_nice h ((i / 8 : Nat) : Int)
  refine ev_step ?_
  simp only [spec_BitsHas.f, spec_BitsHas.b]
  rw [e8, m8, w64n (by omega), w64 (n := rdI b _) (by omega) (by omega)]
  refine ev_pos (by omega) (ev_ite (fun c => ?_) fun c => ev_some (bitAt_out (by omega)).symm)
  refine ev_pos (by omega) (ev_pos (by omega) (ev_pos (by omega) (ev_some ?_)))
  have e : shrI .i64 (rdI b ((i / 8 : Nat) : Int)) ((i % 8 : Nat) : Int) = rdI b ((i / 8 : Nat) : Int) / 2 ^ (i % 8) := by
    unfold shrI
    rw [toNat_nat, Nat.min_eq_left (by show i % 8 ≤ 64; omega)]
  have d := div_pow_bd q.1 q.2 (i % 8)
  rw [e, Int.tmod_eq_emod_of_nonneg d.1]
  unfold bitAt
  rw [Bool.eq_iff_iff]; simp
theorem impl_BitsList.ev0 (z : Bool) (b : List Int) (h : niceB b) : ∀ (d n : Nat) (acc : List Int), n + d = 8 * b.length → acc.length ≤ n → Ev (fun k => impl_BitsList.l0 k z b acc ((8 * b.length : Nat) : Int) (n : Int)) (false, acc ++ (bitsFrom b n d).map fun (n : Nat) => (n : Int))
  | 0, n, acc, hn, ha => by
    refine ev_step ?_
    simp only [impl_BitsList.l0, impl_BitsList.l0b]
    exact ev_neg (by omega) (ev_some (by simp [bitsFrom]))
  | d + 1, n, acc, hn, ha => by
    have hl := h.1
    refine ev_step ?_
    simp only [impl_BitsList.l0, impl_BitsList.l0b]
    refine ev_pos (by omega) (Ev.bind (impl_BitsHas.ev z b h n (by omega)) ?_)
    rw [w64s (by omega)]
    unfold bitsFrom
    refine ev_ite (fun c => ?_) (fun c => ?_)
    · rw [if_pos c]
      refine ev_pos (by omega) (ev_to (impl_BitsList.ev0 z b h d (n + 1) _ (by omega) (by simp; omega)) ?_)
      simp
    · rw [if_neg c]
      exact impl_BitsList.ev0 z b h d (n + 1) acc (by omega) (by omega)
theorem impl_BitsList.ev (z : Bool) (b : List Int) (h : niceB b) : Ev (fun k => impl_BitsList.f k z b) (false, bitsList b) := by
  have hl := h.1
  refine ev_step ?_
  simp only [impl_BitsList.f, impl_BitsList.b]
  rw [w64 (by omega) (by omega)]
  exact ev_to (impl_BitsList.ev0 z b h (8 * b.length) 0 [] (by omega) (by simp)) (by simp [bitsList])
theorem spec_BitsList.ev0 (z : Bool) (b : List Int) (h : niceB b) : ∀ (d n : Nat) (acc : List Int), n + d = 8 * b.length → acc.length ≤ n → Ev (fun k => spec_BitsList.l0 k z b acc (n : Int)) (false, acc ++ (bitsFrom b n d).map fun (n : Nat) => (n : Int))
  | 0, n, acc, hn, ha => by
    have hl := h.1
    refine ev_step ?_
    simp only [spec_BitsList.l0, spec_BitsList.l0b]
    rw [w64 (n := 8 * (b.length : Int)) (by omega) (by omega)]
    exact ev_neg (by omega) (ev_some (by simp [bitsFrom]))
  | d + 1, n, acc, hn, ha => by
    have hl := h.1
    refine ev_step ?_
    simp only [spec_BitsList.l0, spec_BitsList.l0b]
    rw [w64 (n := 8 * (b.length : Int)) (by omega) (by omega)]
    refine ev_pos (by omega) (Ev.bind (spec_BitsHas.ev z b h n (by omega)) ?_)
    rw [w64s (by omega)]
    unfold bitsFrom
    refine ev_ite (fun c => ?_) (fun c => ?_)
    · rw [if_pos c]
      refine ev_pos (by omega) (ev_to (spec_BitsList.ev0 z b h d (n + 1) _ (by omega) (by simp; omega)) ?_)
      simp
    · rw [if_neg c]
      exact spec_BitsList.ev0 z b h d (n + 1) acc (by omega) (by omega)
theorem spec_BitsList.ev (z : Bool) (b : List Int) (h : niceB b) : Ev (fun k => spec_BitsList.f k z b) (false, bitsList b) := by
  refine ev_step ?_
  simp only [spec_BitsList.f, spec_BitsList.b]
  exact ev_to (spec_BitsList.ev0 z b h (8 * b.length) 0 [] (by omega) (by simp)) (by simp [bitsList])
theorem impl_BitsOk.ev0 (z : Bool) (n : Int) (l : List Int) (hl : l.length ≤ 9223372036854775806) : ∀ (d i : Nat), i + d = l.length → Ev (fun k => impl_BitsOk.l0 k n z l (l.length : Int) (i : Int)) ((l.drop i).all fun x => decide (x < n))
  | 0, i, hi => by
    refine ev_step ?_
    simp only [impl_BitsOk.l0, impl_BitsOk.l0b]
    refine ev_neg (by omega) (ev_some ?_)
    rw [List.drop_of_length_le (by omega)]
    rfl
  | d + 1, i, hi => by
    have hlt : i < l.length := by omega
    refine ev_step ?_
    simp only [impl_BitsOk.l0, impl_BitsOk.l0b]
    refine ev_pos (by omega) (ev_pos (by omega) (ev_pos (by omega) ?_))
    rw [w64s (by omega), rd_nat hlt, List.drop_eq_getElem_cons hlt, List.all_cons]
    refine ev_ite (fun c => ev_some ?_) (fun c => ev_to (impl_BitsOk.ev0 z n l hl d (i + 1) (by omega)) ?_)
    · simp; omega
    · simp; omega
theorem impl_BitsOk.ev (z : Bool) (b : List Int) (n : Int) (h : niceB b) (hn : i64r n) : Ev (fun k => impl_BitsOk.f k z b n) (bitsOk b n) := by
  have hl := h.1
  have hL := bitsList_length b
  refine ev_step ?_
  simp only [impl_BitsOk.f, impl_BitsOk.b]
  unfold bitsOk
  refine Ev.bind (impl_within.ev _ _ _) (ev_ite (fun c => ev_some ?_) fun c => Ev.bind (impl_BitsSize.ev n hn) (ev_ite (fun e => ev_some ?_) fun e => Ev.bind (impl_BitsList.ev z b h) (ev_to (impl_BitsOk.ev0 false n (bitsList b) (by omega) (bitsList b).length 0 (by omega)) ?_)))
  · have : ¬ (1 ≤ n ∧ n ≤ 10) := by simpa using c
    simp [this]
  · have : ¬ (b.length : Int) = bitsSize n := by simpa using e
    simp [this]
  · have c' : 1 ≤ n ∧ n ≤ 10 := by simpa using c
    have e' : (b.length : Int) = bitsSize n := by simpa using e
    simp [c', e']
theorem spec_BitsOk.ev (z : Bool) (b : List Int) (n : Int) (h : niceB b) (hn : i64r n) : Ev (fun k => spec_BitsOk.f k z b n) (bitsOk b n) := by
  have hl := h.1
  have hL := bitsList_length b
  refine ev_step ?_
  simp only [spec_BitsOk.f, spec_BitsOk.b]
  unfold bitsOk
  rw [all_lt_last]
  refine Ev.bind (spec_l02Signers.ev _) (ev_ite (fun c => ev_some ?_) fun c => Ev.bind (spec_BitsSize.ev n hn) (ev_ite (fun e => ev_some ?_) fun e => Ev.bind (spec_BitsList.ev z b h) ?_))
  · have : ¬ (1 ≤ n ∧ n ≤ 10) := by simpa using c
    simp [this]
  · have : ¬ (b.length : Int) = bitsSize n := by simpa using e
    simp [this]
  have c' : 1 ≤ n ∧ n ≤ 10 := by simpa using c
  have e' : (b.length : Int) = bitsSize n := by simpa using e
  refine ev_ite (fun z => ev_some ?_) (fun z => ?_)
  · have z' : (((bitsList b).length : Nat) : Int) = 0 := z
    have : bitsList b = [] := List.length_eq_zero_iff.1 (by omega)
    simp [c', e', this]
  · have z' : ¬ (((bitsList b).length : Nat) : Int) = 0 := z
    have hz : 0 < (bitsList b).length := by omega
    show Ev (fun k => cond (decide ((0 : Int) ≤ wrap64 (((bitsList b).length : Int) - 1))) (cond (decide (wrap64 (((bitsList b).length : Int) - 1) < ((bitsList b).length : Int))) (some (decide (rdI (bitsList b) (wrap64 (((bitsList b).length : Int) - 1)) < n))) none) none) _
    rw [w64p (by omega) hz]
    refine ev_pos (by omega) (ev_pos (by omega) (ev_some ?_))
    rw [rd_nat (by omega)]
    have : bitsList b ≠ [] := by intro x; rw [x] at hz; simp at hz
    simp [c', e', this, List.getLast_eq_getElem]
theorem spec_BitsCount.ev (z : Bool) (b : List Int) (h : niceB b) : Ev (fun k => spec_BitsCount.f k z b) ((bitCount b : Nat) : Int) := by
  refine ev_step ?_
  simp only [spec_BitsCount.f, spec_BitsCount.b]
  exact Ev.bind (spec_BitsList.ev z b h) (ev_some (by simp [bitsList, bitCount]))
theorem bits_OnesCount8.all : ∀ n : Fin 256, bits_OnesCount8.f 1 ((n.val : Nat) : Int) = some ((pop8 n.val : Nat) : Int) := by decide +kernel
theorem bits_OnesCount8.ev {x : Int} (h0 : 0 ≤ x) (h1 : x < 256) : Ev (fun k => bits_OnesCount8.f k x) ((pop8 x.toNat : Nat) : Int) := by
  have := bits_OnesCount8.all ⟨x.toNat, by omega⟩
  have e : ((x.toNat : Nat) : Int) = x := by omega
  simp only [e] at this
  exact ⟨1, fun k hk => by
    obtain ⟨j, rfl⟩ : ∃ j, k = j + 1 := ⟨k - 1, by omega⟩
    exact this⟩
theorem pop8_le (n : Nat) : pop8 n ≤ 8 := by
  unfold pop8
  exact Nat.le_trans (List.length_filter_le _ _) (by simp)
theorem impl_BitsCount.ev0 (z : Bool) (b : List Int) (hb : niceB b) : ∀ (d i : Nat), i + d = b.length → Ev (fun k => impl_BitsCount.l0 k (((bitsFrom b 0 (8 * i)).length : Nat) : Int) z b (b.length : Int) (i : Int)) ((bitCount b : Nat) : Int) := by
  intro d
  have hlen := hb.1
  induction d with
  | zero =>
    intro i hi
    refine ev_step ?_
    simp only [impl_BitsCount.l0, impl_BitsCount.l0b]
    refine ev_neg (by omega) (ev_some ?_)
    unfold bitCount
    rw [show i = b.length by omega]
  | succ d ih =>
    intro i hi
    have hlt : i < b.length := by omega
    have e := ih (i + 1) (by omega)
    have hx := hb.2 _ (List.getElem_mem hlt)
    have q := bitsFrom_length b (8 * i) 0
    have q8 := pop8_le (b[i]).toNat
    have es : (bitsFrom b 0 (8 * (i + 1))).length = (bitsFrom b 0 (8 * i)).length + pop8 (b[i]).toNat := by
      rw [show 8 * (i + 1) = 8 * i + 8 by omega, bitsFrom_split, List.length_append, Nat.zero_add, pop_byte hb hlt]
    rw [es] at e
    refine ev_step ?_
    simp only [impl_BitsCount.l0, impl_BitsCount.l0b]
    refine ev_pos (by omega) (ev_pos (by omega) (ev_pos (by omega) ?_))
    rw [rd_nat hlt]
    refine Ev.bind (bits_OnesCount8.ev hx.1 hx.2) ?_
    rw [w64s (by omega), w64 (by omega) (by omega)]
    exact e
theorem impl_BitsCount.ev (z : Bool) (b : List Int) (hb : niceB b) : Ev (fun k => impl_BitsCount.f k z b) ((bitCount b : Nat) : Int) := by
  refine ev_step ?_
  simp only [impl_BitsCount.f, impl_BitsCount.b]
  exact impl_BitsCount.ev0 z b hb b.length 0 (by omega)


end Go.Proofs.YtbpcnodmgphinaaG
namespace Go.Proofs.YtbpcnodmgphinaaG
open Go Go.Proofs.YtbpcnodmgphinaaRv Go.RowKit
set_option linter.unusedVariables false
set_option linter.unusedSimpArgs false

def areH (l : List By) : Bool := allFrom (fun n => decide ((l.getD n default).l.length = 32)) 0 l.length
theorem areH_iff {l : List By} : areH l = true ↔ ∀ b ∈ l, b.l.length = 32 := by
  unfold areH
  rw [allFrom_iff]
  constructor
  · intro h b hb
    obtain ⟨i, hi, rfl⟩ := List.mem_iff_getElem.1 hb
    have := h i (by omega) (by omega)
    rw [getD_in hi] at this
    simpa using this
  · intro h j _ hj
    have hj' : j < l.length := by omega
    rw [getD_in hj']
    simpa using h _ (List.getElem_mem hj')
theorem impl_areHashes.ev (z : Bool) (l : List By) (h : l.length ≤ 1048576) : Ev (fun k => impl_areHashes.f k z (l.map By.t)) (areH l) := by
  refine ev_step ?_
  simp only [impl_areHashes.f, impl_areHashes.b, List.length_map]
  unfold areH
  refine ev_allp (fun k i => impl_areHashes.l0 k z (l.map By.t) (l.length : Int) i) l.length _ (fun n hn hp r hr => ?_) (fun n hn hp => ?_) ?_ l.length 0 (by omega)
  · rw [getD_in hn] at hp
    refine ev_step ?_
    simp only [impl_areHashes.l0, impl_areHashes.l0b, List.length_map, Int.toNat_natCast, by_at hn, By.c0, By.c0z, succ_nat n (by omega)]
    have hp' : l[n].l.length = 32 := by simpa using hp
    exact ev_pos (by omega) (ev_pos (by omega) (ev_pos (by omega) (ev_neg (by simp [hp']) hr)))
  · rw [getD_in hn] at hp
    refine ev_step ?_
    simp only [impl_areHashes.l0, impl_areHashes.l0b, List.length_map, Int.toNat_natCast, by_at hn, By.c0, By.c0z, succ_nat n (by omega)]
    have hp' : ¬ l[n].l.length = 32 := by simpa using hp
    exact ev_pos (by omega) (ev_pos (by omega) (ev_pos (by omega) (ev_pos (by omega) (ev_some rfl))))
  · refine ev_step ?_
    simp only [impl_areHashes.l0, impl_areHashes.l0b]
    exact ev_neg (by omega) (ev_some rfl)
theorem impl_areHashes.ev2 (y z w : Bool) (a b : List Int) : Ev (fun k => impl_areHashes.f k y [.nums 5 .u8 z a, .nums 5 .u8 w b]) (decide (a.length = 32) && decide (b.length = 32)) :=
  ev_to (impl_areHashes.ev y [⟨z, a⟩, ⟨w, b⟩] (by simp)) (by simp [areH, allFrom])
theorem spec_l08Hashes.ev (z : Bool) (l : List By) (h : l.length ≤ 1048576) : Ev (fun k => spec_l08Hashes.f k z (l.map By.t)) (areH l) := by
  refine ev_step ?_
  simp only [spec_l08Hashes.f, spec_l08Hashes.b, List.length_map]
  unfold areH
  refine ev_allp (fun k i => spec_l08Hashes.l0 k z (l.map By.t) (l.length : Int) i) l.length _ (fun n hn hp r hr => ?_) (fun n hn hp => ?_) ?_ l.length 0 (by omega)
  · rw [getD_in hn] at hp
    refine ev_step ?_
    simp only [spec_l08Hashes.l0, spec_l08Hashes.l0b, List.length_map, Int.toNat_natCast, by_at hn, By.c0, By.c0z, succ_nat n (by omega)]
    have hp' : l[n].l.length = 32 := by simpa using hp
    exact ev_pos (by omega) (ev_pos (by omega) (ev_pos (by omega) (Ev.bind (spec_l07Hash.ev _ _) (ev_neg (by simp [hp']) hr))))
  · rw [getD_in hn] at hp
    refine ev_step ?_
    simp only [spec_l08Hashes.l0, spec_l08Hashes.l0b, List.length_map, Int.toNat_natCast, by_at hn, By.c0, By.c0z, succ_nat n (by omega)]
    exact ev_pos (by omega) (ev_pos (by omega) (ev_pos (by omega) (Ev.bind (spec_l07Hash.ev _ _) (ev_pos (by simpa using hp) (ev_some rfl)))))
  · refine ev_step ?_
    simp only [spec_l08Hashes.l0, spec_l08Hashes.l0b]
    exact ev_neg (by omega) (ev_some rfl)
def qcOk (a b c d e : Int) (q : QcV) : Bool :=
  limitsOk a b c d e && (isNum q.v && (isNum q.h && (decide (q.blk.length = 32) && (bitsOk q.bits a && (decide (q.tags.length = bitCount q.bits) && areH q.tags)))))
theorem qcOk_iff {a b c d e : Int} {q : QcV} (h : qcOk a b c d e q = true) : limitsOk a b c d e = true ∧ isNum q.v = true ∧ isNum q.h = true ∧ q.blk.length = 32 ∧ bitsOk q.bits a = true ∧ q.tags.length = bitCount q.bits ∧ areH q.tags = true := by
  simpa [qcOk] using h

def QcV.nice (q : QcV) : Prop := q.few ∧ q.byt
theorem QcV.nbits {q : QcV} (h : q.nice) : niceB q.bits := ⟨h.1.2.1, h.2.2.1⟩
theorem spec_QcOk.ev (a b c d e : Int) (q : QcV) (h : q.nice) (ha : i64r a) : Ev (fun k => spec_QcOk.f k a b c d e q.v q.h q.bz q.blk q.mz q.bits q.tz (q.tags.map By.t)) (qcOk a b c d e q) := by
  refine ev_step ?_
  simp only [spec_QcOk.f, spec_QcOk.b, List.length_map]
  unfold qcOk
  refine Ev.bind (spec_LimitsOk.ev _ _ _ _ _) (ev_ite (fun c0 => ?_) (fun c0 => ev_some (by simp [c0])))
  rw [c0, Bool.true_and]
  refine Ev.bind (spec_l01Num.ev _) (ev_ite (fun c1 => ?_) (fun c1 => ev_some (by simp [c1])))
  rw [c1, Bool.true_and]
  refine Ev.bind (spec_l01Num.ev _) (ev_ite (fun c2 => ?_) (fun c2 => ev_some (by simp [c2])))
  rw [c2, Bool.true_and]
  refine Ev.bind (spec_l07Hash.ev _ _) (ev_ite (fun c3 => ?_) (fun c3 => ev_some (by simp [c3])))
  rw [decide_eq_true c3, Bool.true_and]
  refine Ev.bind (spec_BitsOk.ev _ _ _ (QcV.nbits h) ha) (ev_ite (fun c4 => ?_) (fun c4 => ev_some (by simp [c4])))
  rw [c4, Bool.true_and]
  refine Ev.bind (spec_BitsCount.ev _ _ (QcV.nbits h)) (ev_ite (fun c5 => ?_) (fun c5 => ev_some ?_))
  · have : q.tags.length = bitCount q.bits := by omega
    rw [decide_eq_true this, Bool.true_and]
    exact Ev.bind (spec_l08Hashes.ev _ _ h.1.2.2.1) (ev_some rfl)
  · have : ¬ q.tags.length = bitCount q.bits := by omega
    simp [this]
theorem impl_QcOk.ev (a b c d e : Int) (q : QcV) (h : q.nice) (ha : i64r a) : Ev (fun k => impl_QcOk.f k a b c d e q.v q.h q.bz q.blk q.mz q.bits q.tz (q.tags.map By.t)) (qcOk a b c d e q) := by
  refine ev_step ?_
  simp only [impl_QcOk.f, impl_QcOk.b, List.length_map]
  unfold qcOk
  refine Ev.bind (impl_LimitsOk.ev _ _ _ _ _) (ev_ite (fun c0 => ?_) (fun c0 => ev_some (by simp [c0])))
  rw [c0, Bool.true_and]
  refine Ev.bind (impl_isNum.ev _) (ev_ite (fun c1 => ?_) (fun c1 => ev_some (by simp [c1])))
  rw [c1, Bool.true_and]
  refine Ev.bind (impl_isNum.ev _) (ev_ite (fun c2 => ?_) (fun c2 => ev_some (by simp [c2])))
  rw [c2, Bool.true_and]
  refine Ev.bind (impl_areHashes.ev1 _ _ _) (ev_ite (fun c3 => ?_) (fun c3 => ev_some (by simp [c3])))
  rw [decide_eq_true c3, Bool.true_and]
  refine Ev.bind (impl_BitsOk.ev _ _ _ (QcV.nbits h) ha) (ev_ite (fun c4 => ?_) (fun c4 => ev_some (by simp [c4])))
  rw [c4, Bool.true_and]
  refine Ev.bind (impl_BitsCount.ev _ _ (QcV.nbits h)) (ev_ite (fun c5 => ?_) (fun c5 => ev_some ?_))
  · have : q.tags.length = bitCount q.bits := by omega
    rw [decide_eq_true this, Bool.true_and]
    exact Ev.bind (impl_areHashes.ev _ _ h.1.2.2.1) (ev_some rfl)
  · have : ¬ q.tags.length = bitCount q.bits := by omega
    simp [this]
theorem Rows.few {l : List Row} (h : Rows l) : l.length ≤ 1048576 := h.1
theorem QcV.byt_cp {q : QcV} (h : q.byt) : q.cp.byt := ⟨h.1, h.2.1, fun b hb => by
  obtain ⟨x, hx, rfl⟩ := List.mem_map.1 hb
  exact h.2.2 x hx⟩
end Go.Proofs.YtbpcnodmgphinaaG
namespace Go.Proofs.YtbpcnodmgphinaaG
open Go Go.Proofs.YtbpcnodmgphinaaRv Go.RowKit
set_option linter.unusedVariables false
set_option linter.unusedSimpArgs false

end Go.Proofs.YtbpcnodmgphinaaG
namespace Go.Proofs.YtbpcnodmgphinaaG
open Go Go.Proofs.YtbpcnodmgphinaaRv Go.RowKit
set_option linter.unusedVariables false
set_option linter.unusedSimpArgs false

def fits (x : Head) : Bool := decide (x.q.v < x.v) && (decide (x.q.h = wrap64 (x.h - 1)) && sameB x.q.blk x.par)
def headOk (a b c d e : Int) (x : Head) : Bool :=
  qcOk a b c d e x.q && (isNum x.v && (decide (1 ≤ x.h ∧ x.h ≤ 1152921504606846975) && (decide (0 ≤ x.p ∧ x.p ≤ wrap64 (a - 1)) && ((decide (x.par.length = 32) && decide (x.root.length = 32)) && fits x))))
def Head.nice (x : Head) : Prop := x.few ∧ x.byt
theorem impl_HeadOk.ev (a b c d e : Int) (ha : i64r a) (x : Head) (h : x.nice) : Ev (fun k => impl_HeadOk.f k a b c d e x.v x.h x.p x.az x.par x.rz x.root x.q.v x.q.h x.q.bz x.q.blk x.q.mz x.q.bits x.q.tz (x.q.tags.map By.t)) (headOk a b c d e x) := by
  have hq : x.q.nice := ⟨h.1.2.2, h.2.2.2⟩
  have M : Ev (fun k => impl_Head_matches.f k x.v x.h x.p x.az x.par x.rz x.root x.q.v x.q.h x.q.bz x.q.blk x.q.mz x.q.bits x.q.tz (x.q.tags.map By.t)) (fits x) := by
    refine ev_step ?_
    simp only [impl_Head_matches.f, impl_Head_matches.b]
    unfold fits
    refine ev_ite (fun c1 => ev_ite (fun c2 => Ev.bind (impl_SameBytes.ev _ _ _ _) (ev_some (by simp [c1, c2]))) (fun c2 => ev_some (by simp [c2]))) (fun c1 => ev_some (by simp [c1]))
  refine ev_step ?_
  simp only [impl_HeadOk.f, impl_HeadOk.b]
  unfold headOk
  refine Ev.bind (impl_QcOk.ev a b c d e x.q hq ha) (ev_ite (fun c0 => ?_) (fun c0 => ev_some (by simp [c0])))
  rw [c0, Bool.true_and]
  refine Ev.bind (impl_isNum.ev _) (ev_ite (fun c1 => ?_) (fun c1 => ev_some (by simp [c1])))
  rw [c1, Bool.true_and]
  refine Ev.bind (impl_within.ev _ _ _) (ev_ite (fun c2 => ?_) (fun c2 => ev_some (by rw [decide_eq_false c2]; rfl)))
  rw [decide_eq_true c2, Bool.true_and]
  refine Ev.bind (impl_within.ev _ _ _) (ev_ite (fun c3 => ?_) (fun c3 => ev_some (by rw [decide_eq_false c3]; rfl)))
  rw [decide_eq_true c3, Bool.true_and]
  refine Ev.bind (impl_areHashes.ev2 _ _ _ _ _) (ev_ite (fun c4 => ?_) (fun c4 => ev_some (by simp only [Bool.not_eq_true] at c4; rw [c4]; rfl)))
  rw [c4, Bool.true_and]
  exact Ev.bind M (ev_some rfl)
theorem spec_HeadOk.ev (a b c d e : Int) (ha : i64r a) (x : Head) (h : x.nice) : Ev (fun k => spec_HeadOk.f k a b c d e x.v x.h x.p x.az x.par x.rz x.root x.q.v x.q.h x.q.bz x.q.blk x.q.mz x.q.bits x.q.tz (x.q.tags.map By.t)) (headOk a b c d e x) := by
  have hq : x.q.nice := ⟨h.1.2.2, h.2.2.2⟩
  have M : Ev (fun k => spec_l13Fits.f k x.v x.h x.p x.az x.par x.rz x.root x.q.v x.q.h x.q.bz x.q.blk x.q.mz x.q.bits x.q.tz (x.q.tags.map By.t)) (fits x) := by
    refine ev_step ?_
    simp only [spec_l13Fits.f, spec_l13Fits.b]
    unfold fits
    refine ev_ite (fun c1 => ev_ite (fun c2 => Ev.bind (spec_SameBytes.ev _ _ _ _) (ev_some (by simp [c1, c2]))) (fun c2 => ev_some (by simp [c2]))) (fun c1 => ev_some (by simp [c1]))
  have lq : limitsOk a b c d e = false → qcOk a b c d e x.q = false := fun h => by simp [qcOk, h]
  refine ev_step ?_
  simp only [spec_HeadOk.f, spec_HeadOk.b]
  unfold headOk
  refine Ev.bind (spec_LimitsOk.ev _ _ _ _ _) (ev_ite (fun c0 => ?_) (fun c0 => ev_some (by rw [lq (by simpa using c0)]; rfl)))
  refine Ev.bind (spec_l01Num.ev _) (ev_ite (fun c1 => ?_) (fun c1 => ev_some (by simp [c1])))
  rw [c1, Bool.true_and]
  refine Ev.bind (spec_l01In.ev _ _ _) (ev_ite (fun c2 => ?_) (fun c2 => ev_some (by rw [decide_eq_false c2]; simp)))
  rw [decide_eq_true c2, Bool.true_and]
  refine Ev.bind (spec_l01In.ev _ _ _) (ev_ite (fun c3 => ?_) (fun c3 => ev_some (by rw [decide_eq_false c3]; simp)))
  rw [decide_eq_true c3, Bool.true_and]
  refine Ev.bind (spec_l07Hash.ev _ _) (ev_ite (fun c4 => ?_) (fun c4 => ev_some (by rw [decide_eq_false c4]; simp)))
  rw [decide_eq_true c4, Bool.true_and]
  refine Ev.bind (spec_l07Hash.ev _ _) (ev_ite (fun c5 => ?_) (fun c5 => ev_some (by rw [decide_eq_false c5]; simp)))
  rw [decide_eq_true c5, Bool.true_and]
  refine Ev.bind (spec_QcOk.ev a b c d e x.q hq ha) (ev_ite (fun c6 => ?_) (fun c6 => ev_some (by simp [c6])))
  rw [c6, Bool.true_and]
  exact Ev.bind M (ev_some rfl)


def NiceH (l : List Head) : Prop := l.length ≤ 1048576 ∧ ∀ x ∈ l, x.nice
theorem Head.byt_cp {x : Head} (h : x.byt) : x.cp.byt := ⟨h.1, h.2.1, QcV.byt_cp h.2.2⟩
theorem niceH_cp {l : List Head} (h : FewH l) (hb : BytH l) : NiceH (l.map Head.cp) := ⟨by simpa using h.1, fun x hx => by
  obtain ⟨y, hy, rfl⟩ := List.mem_map.1 hx
  exact ⟨Head.few_cp (h.2 y hy), Head.byt_cp (hb y hy)⟩⟩
end Go.Proofs.YtbpcnodmgphinaaG
namespace Go.Proofs.YtbpcnodmgphinaaG
open Go Go.Proofs.YtbpcnodmgphinaaRv Go.RowKit
set_option linter.unusedVariables false
set_option linter.unusedSimpArgs false

theorem putV_num {b : List Int} {n : Int} (h : isNum n = true) : putV b n = (false, b ++ vint 8 n, true) := if_pos h
theorem allFrom_and (p q : Nat → Bool) : ∀ (m i : Nat), allFrom (fun n => p n && q n) i m = (allFrom p i m && allFrom q i m)
  | 0, i => rfl
  | m + 1, i => by
    simp only [allFrom]
    rw [allFrom_and p q m (i + 1)]
    cases p i <;> cases q i <;> cases allFrom p (i + 1) m <;> simp
def tagsB (l : List By) : List Int := l.flatMap fun b => b.l
def qcBytes (b : List Int) (q : QcV) : List Int := ((((b ++ vint 8 q.v) ++ vint 8 q.h) ++ q.blk) ++ q.bits) ++ tagsB q.tags
def headBytes (b : List Int) (x : Head) : List Int := qcBytes (((((b ++ vint 8 x.v) ++ vint 8 x.h) ++ vint 8 x.p) ++ x.par) ++ x.root) x.q
theorem tagsB_len : ∀ (l : List By), (∀ b ∈ l, b.l.length = 32) → (tagsB l).length = 32 * l.length
  | [], h => rfl
  | b :: l, h => by
    have := tagsB_len l fun x hx => h x (by simp [hx])
    simp only [tagsB, List.flatMap_cons, List.length_append, List.length_cons] at this ⊢
    rw [this, h b (by simp)]
    omega
theorem tagsB_ok {l : List By} (h : BytesL l) : bytesOk (tagsB l) := fun x hx => by
  obtain ⟨b, hb, hx⟩ := List.mem_flatMap.1 hx
  exact h b hb x hx
theorem tagsB_take {l : List By} {n : Nat} (h : n < l.length) : tagsB (l.take (n + 1)) = tagsB (l.take n) ++ l[n].l := by
  rw [List.take_succ_eq_append_getElem h]
  unfold tagsB
  rw [List.flatMap_append]
  simp only [List.flatMap_cons, List.flatMap_nil, List.append_nil]
structure QcK (q : QcV) : Prop where
  v : isNum q.v = true
  h : isNum q.h = true
  blk : q.blk.length = 32
  bits : q.bits.length ≤ 2
  cnt : q.tags.length ≤ 16
  tags : ∀ b ∈ q.tags, b.l.length = 32
theorem qcK {a b c d e : Int} {q : QcV} (h : qcOk a b c d e q = true) : QcK q := by
  obtain ⟨_, h1, h2, h3, h4, h5, h6⟩ := qcOk_iff h
  have hb := bitsOk_len h4
  have := bitsFrom_length q.bits (8 * q.bits.length) 0
  exact ⟨h1, h2, h3, hb, by rw [h5]; unfold bitCount; omega, areH_iff.1 h6⟩
theorem vint_len (n : Int) : (vint 8 n).length ≤ 9 := (vint_length 8 n).2
theorem qcBytes_len {b : List Int} {q : QcV} (h : QcK q) : (qcBytes b q).length ≤ b.length + 600 := by
  have := tagsB_len q.tags h.tags
  have h1 := vint_len q.v
  have h2 := vint_len q.h
  have h3 := h.blk
  have h4 := h.bits
  have h5 := h.cnt
  simp only [qcBytes, List.length_append]
  omega
theorem vint_ok {n : Int} (h : isNum n = true) : bytesOk (vint 8 n) := vint_nice h
theorem qcBytes_ok {b : List Int} {q : QcV} (h : QcK q) (hb : bytesOk b) (hq : q.byt) : bytesOk (qcBytes b q) :=
  app_ok (app_ok (app_ok (app_ok (app_ok hb (vint_ok h.v)) (vint_ok h.h)) hq.1) hq.2.1) (tagsB_ok hq.2.2)
theorem impl_writer_num.ev (z : Bool) (b : List Int) (n : Int) (hb : b.length ≤ 1073741824) (h : isNum n = true) : Ev (fun k => impl_writer_num.f k z b n) (false, b ++ vint 8 n) := by
  refine ev_step ?_
  simp only [impl_writer_num.f, impl_writer_num.b]
  exact Ev.bind (impl_PutVar.ev _ _ _ hb) (ev_some (by rw [putV_num h]))
theorem spec_l11Num.evN (z : Bool) (b : List Int) (n : Int) (hb : b.length ≤ 1073741824) (h : isNum n = true) : Ev (fun k => spec_l11Num.f k z b n) (false, b ++ vint 8 n) :=
  ev_to (spec_l11Num.ev z b n hb) (by rw [putV_num h])
theorem impl_writer_raw.ev (z : Bool) (b : List Int) (y : Bool) (x : List Int) (hb : b.length ≤ 1073741824) (hx : x.length ≤ 1073741824) : Ev (fun k => impl_writer_raw.f k z b y x) (x.isEmpty && z, b ++ x) := by
  refine ev_step ?_
  simp only [impl_writer_raw.f, impl_writer_raw.b]
  exact ev_pos (by omega) (ev_some rfl)
theorem impl_writer_qc.ev (z : Bool) (b : List Int) (hb : b.length ≤ 100000) (q : QcV) (h : QcK q) : Ev (fun k => impl_writer_qc.f k z b q.v q.h q.bz q.blk q.mz q.bits q.tz (q.tags.map By.t)) (false, qcBytes b q) := by
  have h1 := vint_len q.v
  have h2 := vint_len q.h
  have h3 := h.blk
  have h4 := h.bits
  have h5 := h.cnt
  refine ev_step ?_
  simp only [impl_writer_qc.f, impl_writer_qc.b, List.length_map]
  refine Ev.bind (impl_writer_num.ev _ _ _ (by omega) h.v) (Ev.bind (impl_writer_num.ev _ _ _ (by simp only [List.length_append]; omega) h.h) (Ev.bind (impl_writer_raw.ev _ _ _ _ (by simp only [List.length_append]; omega) (by omega)) (Ev.bind (impl_writer_raw.ev _ _ _ _ (by simp only [List.length_append]; omega) (by omega)) ?_)))
  simp only [Bool.and_false]
  have key : ∀ (d n : Nat), n + d = q.tags.length → Ev (fun k => impl_writer_qc.l0 k q.tz (q.tags.map By.t) (q.tags.length : Int) (n : Int) false (((((b ++ vint 8 q.v) ++ vint 8 q.h) ++ q.blk) ++ q.bits) ++ tagsB (q.tags.take n))) (false, qcBytes b q) := by
    intro d
    induction d with
    | zero =>
      intro n hn
      refine ev_step ?_
      simp only [impl_writer_qc.l0, impl_writer_qc.l0b]
      rw [List.take_of_length_le (by omega)]
      exact ev_neg (by omega) (ev_some rfl)
    | succ d ih =>
      intro n hn
      have hlt : n < q.tags.length := by omega
      have i2 := ih (n + 1) (by omega)
      have ht := h.tags _ (List.getElem_mem hlt)
      have hl := tagsB_len (q.tags.take n) fun x hx => h.tags x (List.mem_of_mem_take hx)
      rw [List.length_take] at hl
      rw [tagsB_take hlt, ← List.append_assoc] at i2
      refine ev_step ?_
      simp only [impl_writer_qc.l0, impl_writer_qc.l0b, List.length_map, Int.toNat_natCast, by_at hlt, By.c0, By.c0z, succ_nat n (by omega)]
      refine ev_pos (by omega) (ev_pos (by omega) (ev_pos (by omega) (Ev.bind (impl_writer_raw.ev _ _ _ _ (by simp only [List.length_append]; omega) (by omega)) ?_)))
      simp only [Bool.and_false]
      exact i2
  have := key q.tags.length 0 (by omega)
  simpa [tagsB] using this
theorem spec_PutQc.ev (a c d e f : Int) (ha : i64r a) (z : Bool) (b : List Int) (hb : b.length ≤ 100000) (q : QcV) (hn : q.nice) (ok : qcOk a c d e f q = true) : Ev (fun k => spec_PutQc.f k a c d e f z b q.v q.h q.bz q.blk q.mz q.bits q.tz (q.tags.map By.t)) (false, qcBytes b q, true) := by
  have h := qcK ok
  have h1 := vint_len q.v
  have h2 := vint_len q.h
  have h3 := h.blk
  have h4 := h.bits
  have h5 := h.cnt
  refine ev_step ?_
  simp only [spec_PutQc.f, spec_PutQc.b, List.length_map]
  refine Ev.bind (spec_QcOk.ev _ _ _ _ _ q hn ha) (ev_neg (by simp [ok]) (Ev.bind (spec_l11Num.evN _ _ _ (by omega) h.v) (Ev.bind (spec_l11Num.evN _ _ _ (by simp only [List.length_append]; omega) h.h) ?_)))
  refine ev_pos (by simp only [List.length_append]; omega) (ev_pos (by simp only [List.length_append]; omega) ?_)
  simp only [Bool.and_false]
  have key : ∀ (d n : Nat), n + d = q.tags.length → Ev (fun k => spec_PutQc.l0 k false (((((b ++ vint 8 q.v) ++ vint 8 q.h) ++ q.blk) ++ q.bits) ++ tagsB (q.tags.take n)) q.tz (q.tags.map By.t) (q.tags.length : Int) (n : Int)) (false, qcBytes b q, true) := by
    intro d
    induction d with
    | zero =>
      intro n hn
      refine ev_step ?_
      simp only [spec_PutQc.l0, spec_PutQc.l0b]
      rw [List.take_of_length_le (by omega)]
      exact ev_neg (by omega) (ev_some rfl)
    | succ d ih =>
      intro n hn
      have hlt : n < q.tags.length := by omega
      have i2 := ih (n + 1) (by omega)
      have ht := h.tags _ (List.getElem_mem hlt)
      have hl := tagsB_len (q.tags.take n) fun x hx => h.tags x (List.mem_of_mem_take hx)
      rw [List.length_take] at hl
      rw [tagsB_take hlt, ← List.append_assoc] at i2
      refine ev_step ?_
      simp only [spec_PutQc.l0, spec_PutQc.l0b, List.length_map, Int.toNat_natCast, by_at hlt, By.c0, By.c0z, succ_nat n (by omega), Bool.and_false]
      exact ev_pos (by omega) (ev_pos (by omega) (ev_pos (by omega) (ev_pos (by simp only [List.length_append]; omega) i2)))
  have := key q.tags.length 0 (by omega)
  simpa [tagsB] using this


structure HeadK (x : Head) : Prop where
  v : isNum x.v = true
  h : isNum x.h = true
  p : isNum x.p = true
  par : x.par.length = 32
  root : x.root.length = 32
  q : QcK x.q
theorem headOk_qc {a b c d e : Int} {x : Head} (h : headOk a b c d e x = true) : qcOk a b c d e x.q = true := by
  simp only [headOk, Bool.and_eq_true] at h
  exact h.1
theorem headK {a b c d e : Int} {x : Head} (h : headOk a b c d e x = true) : HeadK x := by
  have hq := headOk_qc h
  have hl := limitsOk_n (qcOk_iff hq).1
  simp only [headOk, Bool.and_eq_true, decide_eq_true_eq] at h
  obtain ⟨_, h1, h2, h3, h4, _⟩ := h
  rw [w64 (by omega) (by omega)] at h3
  exact ⟨h1, isNum_iff.2 (by omega), isNum_iff.2 (by omega), h4.1, h4.2, qcK hq⟩
theorem headBytes_len {b : List Int} {x : Head} (h : HeadK x) : (headBytes b x).length ≤ b.length + 700 := by
  have h1 := vint_len x.v
  have h2 := vint_len x.h
  have h3 := vint_len x.p
  have h4 := h.par
  have h5 := h.root
  refine Nat.le_trans (qcBytes_len h.q) ?_
  simp only [List.length_append]
  omega
theorem headBytes_ok {b : List Int} {x : Head} (h : HeadK x) (hb : bytesOk b) (hx : x.byt) : bytesOk (headBytes b x) :=
  qcBytes_ok h.q (app_ok (app_ok (app_ok (app_ok (app_ok hb (vint_ok h.v)) (vint_ok h.h)) (vint_ok h.p)) hx.1) hx.2.1) hx.2.2
def hash (a b c d e : Int) (x : Head) : Bool × List Int := if headOk a b c d e x = true then (false, sha (headBytes [72] x)) else (true, [])
theorem bytes72 : bytesOk [72] := fun x hx => by simp at hx; omega
theorem impl_PutHead.ev (a b c d e : Int) (ha : i64r a) (x : Head) (hn : x.nice) : Ev (fun k => impl_PutHead.f k a b c d e false [72] x.v x.h x.p x.az x.par x.rz x.root x.q.v x.q.h x.q.bz x.q.blk x.q.mz x.q.bits x.q.tz (x.q.tags.map By.t)) (if headOk a b c d e x = true then (false, headBytes [72] x, true) else (true, [], false)) := by
  refine ev_step ?_
  simp only [impl_PutHead.f, impl_PutHead.b]
  refine Ev.bind (impl_HeadOk.ev a b c d e ha x hn) (ev_ite (fun c0 => ev_some ?_) (fun c0 => ?_))
  · rw [if_neg (by simpa using c0)]
  have c0 : headOk a b c d e x = true := by simpa using c0
  rw [if_pos c0]
  have h := headK c0
  have h1 := vint_len x.v
  have h2 := vint_len x.h
  have h3 := vint_len x.p
  have h4 := h.par
  have h5 := h.root
  have W : Ev (fun k => impl_writer_head.f k false [72] x.v x.h x.p x.az x.par x.rz x.root x.q.v x.q.h x.q.bz x.q.blk x.q.mz x.q.bits x.q.tz (x.q.tags.map By.t)) (false, headBytes [72] x) := by
    refine ev_step ?_
    simp only [impl_writer_head.f, impl_writer_head.b]
    refine Ev.bind (impl_writer_num.ev _ _ _ (by simp) h.v) (Ev.bind (impl_writer_num.ev _ _ _ (by simp only [List.length_append, List.length_cons, List.length_nil]; omega) h.h) (Ev.bind (impl_writer_num.ev _ _ _ (by simp only [List.length_append, List.length_cons, List.length_nil]; omega) h.p) (Ev.bind (impl_writer_raw.ev _ _ _ _ (by simp only [List.length_append, List.length_cons, List.length_nil]; omega) (by omega)) (Ev.bind (impl_writer_raw.ev _ _ _ _ (by simp only [List.length_append, List.length_cons, List.length_nil]; omega) (by omega)) (Ev.bind (impl_writer_qc.ev _ _ (by simp only [List.length_append, List.length_cons, List.length_nil]; omega) x.q h.q) (ev_some rfl))))))
  exact Ev.bind (impl_copyBytes.ev _ _ (by simp)) (Ev.bind W (ev_some rfl))
theorem spec_PutHead.ev (a b c d e : Int) (ha : i64r a) (x : Head) (hn : x.nice) : Ev (fun k => spec_PutHead.f k a b c d e false [72] x.v x.h x.p x.az x.par x.rz x.root x.q.v x.q.h x.q.bz x.q.blk x.q.mz x.q.bits x.q.tz (x.q.tags.map By.t)) (if headOk a b c d e x = true then (false, headBytes [72] x, true) else (true, [], false)) := by
  refine ev_step ?_
  simp only [spec_PutHead.f, spec_PutHead.b]
  refine Ev.bind (spec_HeadOk.ev a b c d e ha x hn) (ev_ite (fun c0 => ev_some ?_) (fun c0 => ?_))
  · rw [if_neg (by simpa using c0)]
  have c0 : headOk a b c d e x = true := by simpa using c0
  rw [if_pos c0]
  have h := headK c0
  have h1 := vint_len x.v
  have h2 := vint_len x.h
  have h3 := vint_len x.p
  have h4 := h.par
  have h5 := h.root
  refine Ev.bind (spec_l11Num.evN _ _ _ (by simp) h.v) (Ev.bind (spec_l11Num.evN _ _ _ (by simp only [List.length_append, List.length_cons, List.length_nil]; omega) h.h) (Ev.bind (spec_l11Num.evN _ _ _ (by simp only [List.length_append, List.length_cons, List.length_nil]; omega) h.p) ?_))
  refine ev_pos (by simp only [List.length_append, List.length_cons, List.length_nil]; omega) (ev_pos (by simp only [List.length_append, List.length_cons, List.length_nil]; omega) ?_)
  exact Ev.bind (spec_PutQc.ev a b c d e ha _ _ (by simp only [List.length_append, List.length_cons, List.length_nil]; omega) x.q ⟨hn.1.2.2, hn.2.2.2⟩ (headOk_qc c0)) (ev_some rfl)
def links (a b c d e : Int) (x y : Head) : Bool := headOk a b c d e x && (headOk a b c d e y && (sameB y.par (hash a b c d e x).2 && (decide (y.q.v = x.v) && decide (y.q.h = x.h))))
theorem impl_HeadHash.ev (a b c d e : Int) (ha : i64r a) (x : Head) (hn : x.nice) : Ev (fun k => impl_HeadHash.f k a b c d e x.v x.h x.p x.az x.par x.rz x.root x.q.v x.q.h x.q.bz x.q.blk x.q.mz x.q.bits x.q.tz (x.q.tags.map By.t)) (hash a b c d e x) := by
  refine ev_step ?_
  simp only [impl_HeadHash.f, impl_HeadHash.b]
  unfold hash
  refine Ev.bind (impl_PutHead.ev a b c d e ha x hn) ?_
  by_cases c0 : headOk a b c d e x = true
  · rw [if_pos c0, if_pos c0]
    have h := headK c0
    have := headBytes_len (b := [72]) h
    simp only [List.length_cons, List.length_nil] at this
    exact ev_neg (by simp) (Ev.bind (impl_Sha.ev _ _ (by simp only []; omega) (headBytes_ok h bytes72 hn.2)) (ev_some rfl))
  · rw [if_neg c0, if_neg c0]
    exact ev_pos (by simp) (ev_some rfl)
theorem impl_Links.ev (a b c d e : Int) (ha : i64r a) (x y : Head) (hn : x.nice) (hm : y.nice) : Ev (fun k => impl_Links.f k a b c d e x.v x.h x.p x.az x.par x.rz x.root x.q.v x.q.h x.q.bz x.q.blk x.q.mz x.q.bits x.q.tz (x.q.tags.map By.t) y.v y.h y.p y.az y.par y.rz y.root y.q.v y.q.h y.q.bz y.q.blk y.q.mz y.q.bits y.q.tz (y.q.tags.map By.t)) (links a b c d e x y) := by
  refine ev_step ?_
  simp only [impl_Links.f, impl_Links.b]
  unfold links
  refine Ev.bind (impl_HeadOk.ev a b c d e ha x hn) (ev_ite (fun c0 => ?_) (fun c0 => ev_some (by simp [c0])))
  rw [c0, Bool.true_and]
  refine Ev.bind (impl_HeadOk.ev a b c d e ha y hm) (ev_ite (fun c1 => ?_) (fun c1 => ev_some (by simp [c1])))
  rw [c1, Bool.true_and]
  refine Ev.bind (impl_HeadHash.ev a b c d e ha x hn) (Ev.bind (impl_SameBytes.ev _ _ _ _) (ev_ite (fun c2 => ?_) (fun c2 => ev_some (by simp [c2]))))
  rw [c2, Bool.true_and]
  exact ev_ite (fun c3 => ev_some (by simp [c3])) (fun c3 => ev_some (by simp [c3]))
theorem spec_HeadHash.ev (a b c d e : Int) (ha : i64r a) (x : Head) (hn : x.nice) : Ev (fun k => spec_HeadHash.f k a b c d e x.v x.h x.p x.az x.par x.rz x.root x.q.v x.q.h x.q.bz x.q.blk x.q.mz x.q.bits x.q.tz (x.q.tags.map By.t)) (hash a b c d e x) := by
  refine ev_step ?_
  simp only [spec_HeadHash.f, spec_HeadHash.b]
  unfold hash
  refine Ev.bind (spec_PutHead.ev a b c d e ha x hn) ?_
  by_cases c0 : headOk a b c d e x = true
  · rw [if_pos c0, if_pos c0]
    have h := headK c0
    have := headBytes_len (b := [72]) h
    simp only [List.length_cons, List.length_nil] at this
    exact ev_neg (by simp) (Ev.bind (spec_Sha.ev _ _ (by simp only []; omega) (headBytes_ok h bytes72 hn.2)) (ev_some rfl))
  · rw [if_neg c0, if_neg c0]
    exact ev_pos (by simp) (ev_some rfl)
theorem spec_Links.ev (a b c d e : Int) (ha : i64r a) (x y : Head) (hn : x.nice) (hm : y.nice) : Ev (fun k => spec_Links.f k a b c d e x.v x.h x.p x.az x.par x.rz x.root x.q.v x.q.h x.q.bz x.q.blk x.q.mz x.q.bits x.q.tz (x.q.tags.map By.t) y.v y.h y.p y.az y.par y.rz y.root y.q.v y.q.h y.q.bz y.q.blk y.q.mz y.q.bits y.q.tz (y.q.tags.map By.t)) (links a b c d e x y) := by
  refine ev_step ?_
  simp only [spec_Links.f, spec_Links.b]
  unfold links
  refine Ev.bind (spec_HeadOk.ev a b c d e ha x hn) (ev_ite (fun c0 => ?_) (fun c0 => ev_some (by simp [c0])))
  rw [c0, Bool.true_and]
  refine Ev.bind (spec_HeadOk.ev a b c d e ha y hm) (ev_ite (fun c1 => ?_) (fun c1 => ev_some (by simp [c1])))
  rw [c1, Bool.true_and]
  refine Ev.bind (spec_HeadHash.ev a b c d e ha x hn) (Ev.bind (spec_SameBytes.ev _ _ _ _) (ev_ite (fun c2 => ?_) (fun c2 => ev_some (by simp [c2]))))
  rw [c2, Bool.true_and]
  exact ev_ite (fun c3 => ev_some (by simp [c3])) (fun c3 => ev_some (by simp [c3]))
def areHeadsV (a b c d e : Int) (l : List Head) : Bool := allFrom (fun n => headOk a b c d e (l.getD n default)) 0 l.length
theorem impl_areHeads.ev (a b c d e : Int) (ha : i64r a) (z : Bool) (l : List Head) (hl : NiceH l) : Ev (fun k => impl_areHeads.f k a b c d e z (l.map Head.t)) (areHeadsV a b c d e l) := by
  have hN := hl.1
  refine ev_step ?_
  simp only [impl_areHeads.f, impl_areHeads.b, List.length_map]
  unfold areHeadsV
  refine ev_allp (fun k i => impl_areHeads.l0 k z (l.map Head.t) (l.length : Int) i a b c d e) l.length _ (fun n hn hp r hr => ?_) (fun n hn hp => ?_) ?_ l.length 0 (by omega)
  · rw [getD_in hn] at hp
    refine ev_step ?_
    simp only [impl_areHeads.l0, impl_areHeads.l0b, List.length_map, Int.toNat_natCast, head_at hn, Head.c0, Head.c1, Head.c2, Head.c3, Head.c3z, Head.c4, Head.c4z, Head.c5, Head.c6, Head.c7, Head.c7z, Head.c8, Head.c8z, Head.c9, Head.c9z, succ_nat n (by omega)]
    exact ev_pos (by omega) (ev_pos (by omega) (ev_pos (by omega) (Ev.bind (impl_HeadOk.ev a b c d e ha _ (hl.2 _ (List.getElem_mem hn))) (ev_neg (by simp [hp]) hr))))
  · rw [getD_in hn] at hp
    refine ev_step ?_
    simp only [impl_areHeads.l0, impl_areHeads.l0b, List.length_map, Int.toNat_natCast, head_at hn, Head.c0, Head.c1, Head.c2, Head.c3, Head.c3z, Head.c4, Head.c4z, Head.c5, Head.c6, Head.c7, Head.c7z, Head.c8, Head.c8z, Head.c9, Head.c9z, succ_nat n (by omega)]
    exact ev_pos (by omega) (ev_pos (by omega) (ev_pos (by omega) (Ev.bind (impl_HeadOk.ev a b c d e ha _ (hl.2 _ (List.getElem_mem hn))) (ev_pos (by simp [hp]) (ev_some rfl)))))
  · refine ev_step ?_
    simp only [impl_areHeads.l0, impl_areHeads.l0b]
    exact ev_neg (by omega) (ev_some rfl)
def pairAt (a b c d e : Int) (l : List Head) (i j : Nat) : Bool := !sameB (hash a b c d e (l.getD i default)).2 (hash a b c d e (l.getD j default)).2
def pairsAt (a b c d e : Int) (l : List Head) (i : Nat) : Bool := allFrom (pairAt a b c d e l i) 0 i
def forestOk (a b c d e : Int) (l : List Head) : Bool := allFrom (pairsAt a b c d e l) 0 l.length && (limitsOk a b c d e && (decide (l.length ≤ 10) && areHeadsV a b c d e l))
theorem take_at {l : List Head} {n j : Nat} (h : j < n) (hn : n ≤ l.length) : ((l.take n).map Head.t).getD j .bad = (l.getD j default).t := by
  rw [head_at (by simp; omega), getD_in (by omega), List.getElem_take]
theorem impl_ForestOk.ev (a b c d e : Int) (ha : i64r a) (z : Bool) (l : List Head) (hl : NiceH l) : Ev (fun k => impl_ForestOk.f k a b c d e z (l.map Head.t)) (forestOk a b c d e l) := by
  have hN := hl.1
  refine ev_step ?_
  simp only [impl_ForestOk.f, impl_ForestOk.b, List.length_map]
  unfold forestOk
  have inner : ∀ (n : Nat) (hn : n < l.length) (r : Bool), Ev (fun k => impl_ForestOk.l0 k z (l.map Head.t) (l.length : Int) ((n + 1 : Nat) : Int) a b c d e z (l.map Head.t)) r → ∀ (m j : Nat), j + m = n → Ev (fun k => impl_ForestOk.l1 k z (l.map Head.t) (l.length : Int) (n : Int) z ((l.take n).map Head.t) (n : Int) (j : Int) a b c d e z (l.map Head.t) l[n].v l[n].h l[n].p l[n].az l[n].par l[n].rz l[n].root l[n].q.v l[n].q.h l[n].q.bz l[n].q.blk l[n].q.mz l[n].q.bits l[n].q.tz (l[n].q.tags.map By.t)) (allFrom (pairAt a b c d e l n) j m && r) := by
    intro n hn r hr m
    induction m with
    | zero =>
      intro j hj
      refine ev_step ?_
      simp only [impl_ForestOk.l1, impl_ForestOk.l1b, allFrom, Bool.true_and]
      rw [succ_nat n (by omega)]
      exact ev_neg (by omega) hr
    | succ m ih =>
      intro j hj
      have hjl : j < l.length := by omega
      have hg : (l.getD j default).nice := by rw [getD_in hjl]; exact hl.2 _ (List.getElem_mem hjl)
      have hlen : (((l.take n).map Head.t).length : Int) = n := by simp; omega
      refine ev_step ?_
      simp only [impl_ForestOk.l1, impl_ForestOk.l1b, Int.toNat_natCast, take_at (l := l) (show j < n by omega) (by omega), Head.c0, Head.c1, Head.c2, Head.c3, Head.c3z, Head.c4, Head.c4z, Head.c5, Head.c6, Head.c7, Head.c7z, Head.c8, Head.c8z, Head.c9, Head.c9z, succ_nat j (by omega), hlen]
      refine ev_pos (by omega) (ev_pos (by omega) (ev_pos (by omega) (Ev.bind (impl_HeadHash.ev a b c d e ha _ (hl.2 _ (List.getElem_mem hn))) (Ev.bind (impl_HeadHash.ev a b c d e ha _ hg) (Ev.bind (impl_SameBytes.ev _ _ _ _) (ev_ite (fun q => ev_some ?_) (fun q => ev_to (ih (j + 1) (by omega)) ?_)))))))
      · have : pairAt a b c d e l n j = false := by unfold pairAt; rw [getD_in hn, q]; rfl
        simp [allFrom, this]
      · have : pairAt a b c d e l n j = true := by unfold pairAt; rw [getD_in hn]; simpa using q
        simp [allFrom, this]
  have key : ∀ (m n : Nat), n + m = l.length → Ev (fun k => impl_ForestOk.l0 k z (l.map Head.t) (l.length : Int) (n : Int) a b c d e z (l.map Head.t)) (allFrom (pairsAt a b c d e l) n m && (limitsOk a b c d e && (decide (l.length ≤ 10) && areHeadsV a b c d e l))) := by
    intro m
    induction m with
    | zero =>
      intro n hn
      refine ev_step ?_
      simp only [impl_ForestOk.l0, impl_ForestOk.l0b, allFrom, Bool.true_and, List.length_map]
      refine ev_neg (by omega) (Ev.bind (impl_LimitsOk.ev _ _ _ _ _) (ev_ite (fun c0 => ?_) (fun c0 => ev_some (by simp [c0]))))
      rw [c0, Bool.true_and]
      refine ev_ite (fun c1 => ?_) (fun c1 => ev_some (by rw [decide_eq_false (by omega)]; rfl))
      rw [decide_eq_true (by omega), Bool.true_and]
      exact Ev.bind (impl_areHeads.ev a b c d e ha z l hl) (ev_some rfl)
    | succ m ih =>
      intro n hn
      have hlt : n < l.length := by omega
      have i2 := inner n hlt _ (ih (n + 1) (by omega)) n 0 (by omega)
      have hlen : ((((l.take n).map Head.t)).length : Int) = n := by simp; omega
      refine ev_step ?_
      simp only [impl_ForestOk.l0, impl_ForestOk.l0b, List.length_map, Int.toNat_natCast, head_at hlt, Head.c0, Head.c1, Head.c2, Head.c3, Head.c3z, Head.c4, Head.c4z, Head.c5, Head.c6, Head.c7, Head.c7z, Head.c8, Head.c8z, Head.c9, Head.c9z, List.drop_zero]
      rw [← List.map_take]
      refine ev_pos (by omega) (ev_pos (by omega) (ev_pos (by omega) (ev_pos (by omega) (ev_pos (by omega) (ev_pos (by omega) ?_)))))
      rw [hlen]
      refine ev_to i2 ?_
      simp only [allFrom, pairsAt, Bool.and_assoc]
  exact key l.length 0 (by omega)
theorem spec_ForestOk.ev (a b c d e : Int) (ha : i64r a) (z : Bool) (l : List Head) (hl : NiceH l) : Ev (fun k => spec_ForestOk.f k a b c d e z (l.map Head.t)) (forestOk a b c d e l) := by
  have hN := hl.1
  refine ev_step ?_
  simp only [spec_ForestOk.f, spec_ForestOk.b, List.length_map]
  unfold forestOk
  refine Ev.bind (spec_LimitsOk.ev _ _ _ _ _) (ev_ite (fun c0 => ev_some ?_) (fun c0 => ?_))
  · have : limitsOk a b c d e = false := by simpa using c0
    simp [this]
  have c0 : limitsOk a b c d e = true := by simpa using c0
  refine ev_ite (fun c1 => ev_some ?_) (fun c1 => ?_)
  · rw [decide_eq_false (by omega : ¬ l.length ≤ 10)]; simp
  rw [c0, decide_eq_true (by omega : l.length ≤ 10), Bool.true_and, Bool.true_and]
  have inner : ∀ (n : Nat) (hn : n < l.length) (r : Bool), Ev (fun k => spec_ForestOk.l0 k z (l.map Head.t) (l.length : Int) ((n + 1 : Nat) : Int) a b c d e z (l.map Head.t)) r → ∀ (m j : Nat), j + m = n → Ev (fun k => spec_ForestOk.l1 k z (l.map Head.t) (l.length : Int) (n : Int) z ((l.take n).map Head.t) (n : Int) (j : Int) a b c d e z (l.map Head.t) l[n].v l[n].h l[n].p l[n].az l[n].par l[n].rz l[n].root l[n].q.v l[n].q.h l[n].q.bz l[n].q.blk l[n].q.mz l[n].q.bits l[n].q.tz (l[n].q.tags.map By.t)) (allFrom (pairAt a b c d e l n) j m && r) := by
    intro n hn r hr m
    induction m with
    | zero =>
      intro j hj
      refine ev_step ?_
      simp only [spec_ForestOk.l1, spec_ForestOk.l1b, allFrom, Bool.true_and]
      rw [succ_nat n (by omega)]
      exact ev_neg (by omega) hr
    | succ m ih =>
      intro j hj
      have hjl : j < l.length := by omega
      have hg : (l.getD j default).nice := by rw [getD_in hjl]; exact hl.2 _ (List.getElem_mem hjl)
      have hlen : (((l.take n).map Head.t).length : Int) = n := by simp; omega
      refine ev_step ?_
      simp only [spec_ForestOk.l1, spec_ForestOk.l1b, Int.toNat_natCast, take_at (l := l) (show j < n by omega) (by omega), Head.c0, Head.c1, Head.c2, Head.c3, Head.c3z, Head.c4, Head.c4z, Head.c5, Head.c6, Head.c7, Head.c7z, Head.c8, Head.c8z, Head.c9, Head.c9z, succ_nat j (by omega), hlen]
      refine ev_pos (by omega) (ev_pos (by omega) (ev_pos (by omega) (Ev.bind (spec_HeadHash.ev a b c d e ha _ hg) (Ev.bind (spec_HeadHash.ev a b c d e ha _ (hl.2 _ (List.getElem_mem hn))) (Ev.bind (spec_SameBytes.ev _ _ _ _) (ev_ite (fun q => ev_some ?_) (fun q => ev_to (ih (j + 1) (by omega)) ?_)))))))
      · have : pairAt a b c d e l n j = false := by unfold pairAt; rw [getD_in hn, sameB_comm, q]; rfl
        simp [allFrom, this]
      · have : pairAt a b c d e l n j = true := by unfold pairAt; rw [getD_in hn, sameB_comm]; simpa using q
        simp [allFrom, this]
  have key : ∀ (m n : Nat), n + m = l.length → Ev (fun k => spec_ForestOk.l0 k z (l.map Head.t) (l.length : Int) (n : Int) a b c d e z (l.map Head.t)) (allFrom (fun n => headOk a b c d e (l.getD n default) && pairsAt a b c d e l n) n m) := by
    intro m
    induction m with
    | zero =>
      intro n hn
      refine ev_step ?_
      simp only [spec_ForestOk.l0, spec_ForestOk.l0b, allFrom]
      exact ev_neg (by omega) (ev_some rfl)
    | succ m ih =>
      intro n hn
      have hlt : n < l.length := by omega
      have i2 := inner n hlt _ (ih (n + 1) (by omega)) n 0 (by omega)
      have hlen : ((((l.take n).map Head.t)).length : Int) = n := by simp; omega
      refine ev_step ?_
      simp only [spec_ForestOk.l0, spec_ForestOk.l0b, List.length_map, Int.toNat_natCast, head_at hlt, Head.c0, Head.c1, Head.c2, Head.c3, Head.c3z, Head.c4, Head.c4z, Head.c5, Head.c6, Head.c7, Head.c7z, Head.c8, Head.c8z, Head.c9, Head.c9z, List.drop_zero]
      rw [← List.map_take]
      refine ev_pos (by omega) (ev_pos (by omega) (ev_pos (by omega) (Ev.bind (spec_HeadOk.ev a b c d e ha _ (hl.2 _ (List.getElem_mem hlt))) (ev_ite (fun q => ev_some ?_) (fun q => ev_pos (by omega) (ev_pos (by omega) (ev_pos (by omega) ?_)))))))
      · have q : headOk a b c d e l[n] = false := by simpa using q
        simp only [allFrom]; rw [getD_in hlt, q]; rfl
      · have q : headOk a b c d e l[n] = true := by simpa using q
        rw [hlen]
        refine ev_to i2 ?_
        simp only [allFrom, pairsAt]
        rw [getD_in hlt, q, Bool.true_and]
  refine ev_to (key l.length 0 (by omega)) ?_
  rw [allFrom_and]
  unfold areHeadsV
  rw [Bool.and_comm]
end Go.Proofs.YtbpcnodmgphinaaG
namespace Go.Proofs.YtbpcnodmgphinaaG
open Go Go.Proofs.YtbpcnodmgphinaaRv Go.RowKit
set_option linter.unusedVariables false
set_option linter.unusedSimpArgs false


def cnt {α : Type} (w : α → Nat) (l : List α) : Nat := (l.map w).sum
theorem cnt_take {α : Type} (w : α → Nat) {l : List α} {n : Nat} (h : n < l.length) : cnt w (l.take (n + 1)) = cnt w (l.take n) + w l[n] := by
  rw [List.take_succ_eq_append_getElem h]
  unfold cnt
  rw [List.map_append, List.sum_append]
  simp only [List.map_cons, List.map_nil, List.sum_cons, List.sum_nil, Nat.add_zero]
theorem cnt_le {α : Type} (w : α → Nat) (m : Nat) : ∀ (l : List α), (∀ x ∈ l, w x ≤ m) → cnt w l ≤ l.length * m
  | [], h => by simp [cnt]
  | x :: l, h => by
    have := cnt_le w m l fun y hy => h y (by simp [hy])
    have := h x (by simp)
    simp only [cnt, List.map_cons, List.sum_cons, List.length_cons, Nat.add_mul, Nat.one_mul] at *
    omega
def byW (b : By) : Nat := b.l.length
def tagAt (l : List By) (a : Int) (i : Nat) : By := ⟨(l.getD i default).z, mk8 (l.getD i default).l.length (a + (cnt byW (l.take i) : Nat))⟩
def mkTags (l : List By) (a : Int) : List By := (List.range l.length).map (tagAt l a)
theorem mkTags_len (l : List By) (a : Int) : (mkTags l a).length = l.length := by simp [mkTags]
theorem mkTags_get (l : List By) (a : Int) {i : Nat} (h : i < (mkTags l a).length) : (mkTags l a)[i] = tagAt l a i := by simp [mkTags]
theorem laws_markByteSS.ev (z : Bool) (l : List By) (h : FewB l) (a : Int) (h0 : 0 ≤ a) (h1 : a ≤ 8796093022208) : Ev (fun k => laws_markByteSS.f k z (l.map By.t) a) (a + (cnt byW l : Nat), z, (mkTags l a).map By.t) := by
  have hl : l.length ≤ 1048576 := h.1
  have key : ∀ (d n : Nat) (ys : List T), n + d = l.length → ys.length = l.length → ys.drop n = (l.map By.t).drop n → ys.take n = ((mkTags l a).map By.t).take n → Ev (fun k => laws_markByteSS.l0 k z ys (a + (cnt byW (l.take n) : Nat)) (n : Int)) (a + (cnt byW l : Nat), z, (mkTags l a).map By.t) := by
    intro d
    induction d with
    | zero =>
      intro n ys hn hy ht hk
      refine ev_step ?_
      simp only [laws_markByteSS.l0, laws_markByteSS.l0b]
      refine ev_neg (by omega) (ev_some ?_)
      rw [List.take_of_length_le (by omega), List.take_of_length_le (by rw [List.length_map, mkTags_len]; omega)] at hk
      rw [hk, List.take_of_length_le (by omega)]
    | succ d ih =>
      intro n ys hn hy ht hk
      have hlt : n < l.length := by omega
      have hg := getD_of_drop (d := T.bad) ht hlt
      have hb := h.2 _ (List.getElem_mem hlt)
      have hb' : (l[n]).l.length ≤ 1048576 := hb
      have hc := cnt_le byW 1048576 (l.take n) fun x hx => h.2 x (List.mem_of_mem_take hx)
      have hc2 : (l.take n).length * 1048576 ≤ 1048576 * 1048576 := Nat.mul_le_mul_right _ (by rw [List.length_take]; omega)
      have M := laws_markByteS.ev (l[n]).z (l[n]).l hb (a + (cnt byW (l.take n) : Nat)) ⟨by omega, by omega⟩
      have ht' : ys.drop (n + 1) = (l.map By.t).drop (n + 1) := by
        have := congrArg (List.drop 1) ht
        simpa [List.drop_drop] using this
      have e1 : (tagAt l a n).t = .nums 5 .u8 (l[n]).z (mk8 (l[n]).l.length (a + (cnt byW (l.take n) : Nat))) := by
        unfold tagAt By.t; rw [getD_in hlt]
      have i2 := ih (n + 1) (ys.set n (tagAt l a n).t) (by omega) (by simp [hy]) (by rw [drop_set_lt (by omega), ht']) (by
        rw [List.take_succ_eq_append_getElem (by simp; omega), List.take_succ_eq_append_getElem (by rw [List.length_map, mkTags_len]; omega), List.take_set_of_le (Nat.le_refl n), hk, List.getElem_set_self, List.getElem_map, mkTags_get])
      rw [cnt_take byW hlt, e1, show (a + ((cnt byW (l.take n) + byW l[n] : Nat) : Int)) = a + (cnt byW (l.take n) : Nat) + ((l[n]).l.length : Int) by unfold byW; omega] at i2
      refine ev_step ?_
      simp only [laws_markByteSS.l0, laws_markByteSS.l0b, Int.toNat_natCast, succ_nat n (by omega), hg, By.c0, By.c0z]
      exact ev_pos (by omega) (ev_pos (by omega) (ev_pos (by omega) (Ev.bind M i2)))
  refine ev_step ?_
  simp only [laws_markByteSS.f, laws_markByteSS.b]
  have := key l.length 0 (l.map By.t) (by omega) (by simp) rfl (by simp)
  simpa [cnt] using this
theorem laws_heldByteSS.ev (z : Bool) (l : List By) (h : FewB l) (a : Int) (h0 : 0 ≤ a) (h1 : a ≤ 8796093022208) : Ev (fun k => laws_heldByteSS.f k z ((mkTags l a).map By.t) a) (a + (cnt byW l : Nat)) := by
  have hl : l.length ≤ 1048576 := h.1
  have hm := mkTags_len l a
  have key : ∀ (d n : Nat), n + d = l.length → Ev (fun k => laws_heldByteSS.l0 k z ((mkTags l a).map By.t) (a + (cnt byW (l.take n) : Nat)) (n : Int)) (a + (cnt byW l : Nat)) := by
    intro d
    induction d with
    | zero =>
      intro n hn
      refine ev_step ?_
      simp only [laws_heldByteSS.l0, laws_heldByteSS.l0b, List.length_map]
      refine ev_neg (by omega) (ev_some ?_)
      rw [List.take_of_length_le (by omega)]
    | succ d ih =>
      intro n hn
      have hlt : n < l.length := by omega
      have hb' : (l[n]).l.length ≤ 1048576 := h.2 _ (List.getElem_mem hlt)
      have hc := cnt_le byW 1048576 (l.take n) fun x hx => h.2 x (List.mem_of_mem_take hx)
      have hc2 : (l.take n).length * 1048576 ≤ 1048576 * 1048576 := Nat.mul_le_mul_right _ (by rw [List.length_take]; omega)
      have i2 := ih (n + 1) (by omega)
      rw [cnt_take byW hlt, show (a + ((cnt byW (l.take n) + byW l[n] : Nat) : Int)) = a + (cnt byW (l.take n) : Nat) + ((l[n]).l.length : Int) by unfold byW; omega] at i2
      have H := laws_heldByteS.ev (tagAt l a n).z (l[n]).l.length hb' (a + (cnt byW (l.take n) : Nat)) ⟨by omega, by omega⟩
      have e1 : (tagAt l a n).l = mk8 (l[n]).l.length (a + (cnt byW (l.take n) : Nat)) := by unfold tagAt; rw [getD_in hlt]
      have hlt' : n < (mkTags l a).length := by omega
      refine ev_step ?_
      simp only [laws_heldByteSS.l0, laws_heldByteSS.l0b, List.length_map, Int.toNat_natCast, succ_nat n (by omega), by_at hlt', mkTags_get, By.c0, By.c0z, e1]
      exact ev_pos (by omega) (ev_pos (by omega) (ev_pos (by omega) (Ev.bind H (ev_neg (by omega) i2))))
  refine ev_step ?_
  simp only [laws_heldByteSS.f, laws_heldByteSS.b]
  have := key l.length 0 (by omega)
  simpa [cnt] using this
def QcV.w (q : QcV) : Nat := q.blk.length + q.bits.length + cnt byW q.tags

theorem set_set {α : Type} (l : List α) (n : Nat) (x y : α) : (l.set n x).set n y = l.set n y := List.set_set ..
end Go.Proofs.YtbpcnodmgphinaaG
namespace Go.Proofs.YtbpcnodmgphinaaG
open Go Go.Proofs.YtbpcnodmgphinaaRv Go.RowKit
set_option linter.unusedVariables false
set_option linter.unusedSimpArgs false

def Head.w (x : Head) : Nat := x.par.length + x.root.length + x.q.w
end Go.Proofs.YtbpcnodmgphinaaG
namespace Go.Proofs.YtbpcnodmgphinaaG
open Go Go.Proofs.YtbpcnodmgphinaaRv Go.RowKit
set_option linter.unusedVariables false
set_option linter.unusedSimpArgs false

end Go.Proofs.YtbpcnodmgphinaaG
namespace Go.Proofs.YtbpcnodmgphinaaG
open Go Go.Proofs.YtbpcnodmgphinaaRv Go.RowKit
set_option linter.unusedVariables false
set_option linter.unusedSimpArgs false

end Go.Proofs.YtbpcnodmgphinaaG
namespace Go.Proofs.YtbpcnodmgphinaaG
open Go Go.Proofs.YtbpcnodmgphinaaRv Go.RowKit
set_option linter.unusedVariables false
set_option linter.unusedSimpArgs false

theorem cnt_drop {α : Type} (w : α → Nat) {l : List α} {n : Nat} (h : n < l.length) : cnt w (l.drop n) = w l[n] + cnt w (l.drop (n + 1)) := by
  unfold cnt
  rw [List.drop_eq_getElem_cons h, List.map_cons, List.sum_cons]
theorem cnt_end {α : Type} (w : α → Nat) {l : List α} {n : Nat} (h : l.length ≤ n) : cnt w (l.drop n) = 0 := by
  rw [List.drop_of_length_le h]
  rfl
theorem laws_szByteS.evw (z : Bool) (l : List Int) (h : l.length ≤ 9223372036854775807) (a : Int) (h0 : 0 ≤ a) (h1 : a ≤ 1048576) : ∃ r, Ev (fun k => laws_szByteS.f k z l a) r ∧ SzR (okB l ∧ (l.length : Int) ≤ a - r) a r := by
  have e : wrap64 (a - (l.length : Int)) = a - (l.length : Int) := w64 (by omega) (by omega)
  by_cases c : (l.length : Int) ≤ a
  · refine ⟨a - l.length, ev_step ?_, Or.inr ⟨by omega, by omega, ⟨by unfold okB; omega, by omega⟩⟩⟩
    simp only [laws_szByteS.f, laws_szByteS.b, e]
    clear e
    exact ev_neg (by omega) (ev_some rfl)
  · refine ⟨-1, ev_step ?_, Or.inl rfl⟩
    simp only [laws_szByteS.f, laws_szByteS.b, e]
    clear e
    exact ev_pos (by omega) (ev_some rfl)
theorem laws_szByteSS.evw0 (z : Bool) (l : List By) (hl : l.length ≤ 1048576) (h : ∀ b ∈ l, b.l.length ≤ 9223372036854775807) : ∀ (d n : Nat) (a : Int), n + d = l.length → 0 ≤ a → a ≤ 1048576 → ∃ q, Ev (fun k => laws_szByteSS.l0 k z (l.map By.t) a (n : Int)) q ∧ SzR ((∀ r ∈ l.drop n, okB r.l) ∧ ((cnt byW (l.drop n) : Nat) : Int) ≤ a - q) a q
  | 0, n, a, hn, h0, h1 => by
    refine ⟨a, ev_step ?_, Or.inr ⟨h0, by omega, fun r hr => ?_, by rw [cnt_end byW (by omega)]; simp⟩⟩
    · simp only [laws_szByteSS.l0, laws_szByteSS.l0b, List.length_map]
      exact ev_neg (by omega) (ev_some rfl)
    · rw [List.drop_of_length_le (by omega)] at hr; cases hr
  | d + 1, n, a, hn, h0, h1 => by
    have hlt : n < l.length := by omega
    obtain ⟨q, e, s⟩ := laws_szByteS.evw l[n].z l[n].l (h _ (List.getElem_mem hlt)) a h0 h1
    rcases s with rfl | ⟨s1, s2, s3⟩
    · refine ⟨-1, ev_step ?_, Or.inl rfl⟩
      simp only [laws_szByteSS.l0, laws_szByteSS.l0b, List.length_map, Int.toNat_natCast, by_at hlt, By.c0, By.c0z]
      exact ev_pos (by omega) (ev_pos (by omega) (ev_pos (by omega) (Ev.bind e (ev_pos (by omega) (ev_some rfl)))))
    · obtain ⟨p, e2, s'⟩ := laws_szByteSS.evw0 z l hl h d (n + 1) q (by omega) s1 (by omega)
      refine ⟨p, ev_step ?_, ?_⟩
      · simp only [laws_szByteSS.l0, laws_szByteSS.l0b, List.length_map, Int.toNat_natCast, by_at hlt, By.c0, By.c0z, succ_nat n (by omega)]
        exact ev_pos (by omega) (ev_pos (by omega) (ev_pos (by omega) (Ev.bind e (ev_neg (by omega) e2))))
      · rcases s' with rfl | ⟨t1, t2, t3⟩
        · exact Or.inl rfl
        · refine Or.inr ⟨t1, by omega, fun r hr => ?_, by have := cnt_drop byW hlt; have h1 := s3.2; have h2 := t3.2; unfold byW at this h2 ⊢; omega⟩
          rw [List.drop_eq_getElem_cons hlt] at hr
          rcases List.mem_cons.1 hr with rfl | hr
          · exact s3.1
          · exact t3.1 r hr
theorem laws_szByteSS.evw (z : Bool) (l : List By) (h : FitB l) (a : Int) (h0 : 0 ≤ a) (h1 : a ≤ 1048576) : ∃ q, Ev (fun k => laws_szByteSS.f k z (l.map By.t) a) q ∧ SzR (FewB l ∧ ((cnt byW l : Nat) : Int) ≤ a - q) a q := by
  have hl := h.1
  have e : wrap64 (a - (l.length : Int)) = a - (l.length : Int) := w64 (by omega) (by omega)
  by_cases c : (l.length : Int) ≤ a
  · obtain ⟨q, e2, s⟩ := laws_szByteSS.evw0 z l (by clear e; omega) h.2 l.length 0 (a - l.length) (by omega) (by clear e; omega) (by clear e; omega)
    refine ⟨q, ev_step ?_, ?_⟩
    · simp only [laws_szByteSS.f, laws_szByteSS.b, List.length_map, e]
      clear e
      exact ev_neg (by omega) e2
    · clear e
      rcases s with rfl | ⟨t1, t2, t3⟩
      · exact Or.inl rfl
      · exact Or.inr ⟨t1, by omega, ⟨by omega, t3.1⟩, by have := t3.2; rw [List.drop_zero] at this; omega⟩
  · refine ⟨-1, ev_step ?_, Or.inl rfl⟩
    simp only [laws_szByteSS.f, laws_szByteSS.b, List.length_map, e]
    clear e
    exact ev_pos (by omega) (ev_some rfl)
theorem laws_szQc.evw (q : QcV) (h : q.fit) (a : Int) (h0 : 0 ≤ a) (h1 : a ≤ 1048576) : ∃ r, Ev (fun k => laws_szQc.f k q.v q.h q.bz q.blk q.mz q.bits q.tz (q.tags.map By.t) a) r ∧ SzR (q.few ∧ (q.w : Int) ≤ a - r) a r := by
  obtain ⟨r, e, s⟩ := laws_szByteS.evw q.bz q.blk h.1 a h0 h1
  rcases s with rfl | ⟨s1, s2, s3⟩
  · refine ⟨-1, ev_step ?_, Or.inl rfl⟩
    simp only [laws_szQc.f, laws_szQc.b]
    exact Ev.bind e (ev_pos (by omega) (ev_some rfl))
  obtain ⟨p, e2, s⟩ := laws_szByteS.evw q.mz q.bits h.2.1 r s1 (by omega)
  rcases s with rfl | ⟨t1, t2, t3⟩
  · refine ⟨-1, ev_step ?_, Or.inl rfl⟩
    simp only [laws_szQc.f, laws_szQc.b]
    exact Ev.bind e (ev_neg (by omega) (Ev.bind e2 (ev_pos (by omega) (ev_some rfl))))
  obtain ⟨o, e3, s⟩ := laws_szByteSS.evw q.tz q.tags h.2.2 p t1 (by omega)
  rcases s with rfl | ⟨u1, u2, u3⟩
  · refine ⟨-1, ev_step ?_, Or.inl rfl⟩
    simp only [laws_szQc.f, laws_szQc.b]
    exact Ev.bind e (ev_neg (by omega) (Ev.bind e2 (ev_neg (by omega) (Ev.bind e3 (ev_pos (by omega) (ev_some rfl))))))
  · refine ⟨o, ev_step ?_, Or.inr ⟨u1, by omega, ⟨s3.1, t3.1, u3.1⟩, by have a1 := s3.2; have a2 := t3.2; have a3 := u3.2; unfold QcV.w; omega⟩⟩
    simp only [laws_szQc.f, laws_szQc.b]
    exact Ev.bind e (ev_neg (by omega) (Ev.bind e2 (ev_neg (by omega) (Ev.bind e3 (ev_neg (by omega) (ev_some rfl))))))
theorem laws_szHead.evw (x : Head) (h : x.fit) (a : Int) (h0 : 0 ≤ a) (h1 : a ≤ 1048576) : ∃ r, Ev (fun k => laws_szHead.f k x.v x.h x.p x.az x.par x.rz x.root x.q.v x.q.h x.q.bz x.q.blk x.q.mz x.q.bits x.q.tz (x.q.tags.map By.t) a) r ∧ SzR (x.few ∧ (x.w : Int) ≤ a - r) a r := by
  obtain ⟨r, e, s⟩ := laws_szByteS.evw x.az x.par h.1 a h0 h1
  rcases s with rfl | ⟨s1, s2, s3⟩
  · refine ⟨-1, ev_step ?_, Or.inl rfl⟩
    simp only [laws_szHead.f, laws_szHead.b]
    exact Ev.bind e (ev_pos (by omega) (ev_some rfl))
  obtain ⟨p, e2, s⟩ := laws_szByteS.evw x.rz x.root h.2.1 r s1 (by omega)
  rcases s with rfl | ⟨t1, t2, t3⟩
  · refine ⟨-1, ev_step ?_, Or.inl rfl⟩
    simp only [laws_szHead.f, laws_szHead.b]
    exact Ev.bind e (ev_neg (by omega) (Ev.bind e2 (ev_pos (by omega) (ev_some rfl))))
  obtain ⟨o, e3, s⟩ := laws_szQc.evw x.q h.2.2 p t1 (by omega)
  rcases s with rfl | ⟨u1, u2, u3⟩
  · refine ⟨-1, ev_step ?_, Or.inl rfl⟩
    simp only [laws_szHead.f, laws_szHead.b]
    exact Ev.bind e (ev_neg (by omega) (Ev.bind e2 (ev_neg (by omega) (Ev.bind e3 (ev_pos (by omega) (ev_some rfl))))))
  · refine ⟨o, ev_step ?_, Or.inr ⟨u1, by omega, ⟨s3.1, t3.1, u3.1⟩, by have a1 := s3.2; have a2 := t3.2; have a3 := u3.2; unfold Head.w; omega⟩⟩
    simp only [laws_szHead.f, laws_szHead.b]
    exact Ev.bind e (ev_neg (by omega) (Ev.bind e2 (ev_neg (by omega) (Ev.bind e3 (ev_neg (by omega) (ev_some rfl))))))
theorem laws_szHeadS.evw0 (z : Bool) (l : List Head) (hl : l.length ≤ 1048576) (h : ∀ b ∈ l, b.fit) : ∀ (d n : Nat) (a : Int), n + d = l.length → 0 ≤ a → a ≤ 1048576 → ∃ q, Ev (fun k => laws_szHeadS.l0 k z (l.map Head.t) a (n : Int)) q ∧ SzR ((∀ r ∈ l.drop n, r.few) ∧ ((cnt Head.w (l.drop n) : Nat) : Int) ≤ a - q) a q
  | 0, n, a, hn, h0, h1 => by
    refine ⟨a, ev_step ?_, Or.inr ⟨h0, by omega, fun r hr => ?_, by rw [cnt_end Head.w (by omega)]; simp⟩⟩
    · simp only [laws_szHeadS.l0, laws_szHeadS.l0b, List.length_map]
      exact ev_neg (by omega) (ev_some rfl)
    · rw [List.drop_of_length_le (by omega)] at hr; cases hr
  | d + 1, n, a, hn, h0, h1 => by
    have hlt : n < l.length := by omega
    obtain ⟨q, e, s⟩ := laws_szHead.evw l[n] (h _ (List.getElem_mem hlt)) a h0 h1
    rcases s with rfl | ⟨s1, s2, s3⟩
    · refine ⟨-1, ev_step ?_, Or.inl rfl⟩
      simp only [laws_szHeadS.l0, laws_szHeadS.l0b, List.length_map, Int.toNat_natCast, head_at hlt, Head.c0, Head.c1, Head.c2, Head.c3z, Head.c3, Head.c4z, Head.c4, Head.c5, Head.c6, Head.c7z, Head.c7, Head.c8z, Head.c8, Head.c9z, Head.c9]
      exact ev_pos (by omega) (ev_pos (by omega) (ev_pos (by omega) (Ev.bind e (ev_pos (by omega) (ev_some rfl)))))
    · obtain ⟨p, e2, s'⟩ := laws_szHeadS.evw0 z l hl h d (n + 1) q (by omega) s1 (by omega)
      refine ⟨p, ev_step ?_, ?_⟩
      · simp only [laws_szHeadS.l0, laws_szHeadS.l0b, List.length_map, Int.toNat_natCast, head_at hlt, Head.c0, Head.c1, Head.c2, Head.c3z, Head.c3, Head.c4z, Head.c4, Head.c5, Head.c6, Head.c7z, Head.c7, Head.c8z, Head.c8, Head.c9z, Head.c9, succ_nat n (by omega)]
        exact ev_pos (by omega) (ev_pos (by omega) (ev_pos (by omega) (Ev.bind e (ev_neg (by omega) e2))))
      · rcases s' with rfl | ⟨t1, t2, t3⟩
        · exact Or.inl rfl
        · refine Or.inr ⟨t1, by omega, fun r hr => ?_, by have := cnt_drop Head.w hlt; have h1 := s3.2; have h2 := t3.2; omega⟩
          rw [List.drop_eq_getElem_cons hlt] at hr
          rcases List.mem_cons.1 hr with rfl | hr
          · exact s3.1
          · exact t3.1 r hr
theorem laws_szHeadS.evw (z : Bool) (l : List Head) (h : FitH l) (a : Int) (h0 : 0 ≤ a) (h1 : a ≤ 1048576) : ∃ q, Ev (fun k => laws_szHeadS.f k z (l.map Head.t) a) q ∧ SzR (FewH l ∧ ((cnt Head.w l : Nat) : Int) ≤ a - q) a q := by
  have hl := h.1
  have e : wrap64 (a - (l.length : Int)) = a - (l.length : Int) := w64 (by omega) (by omega)
  by_cases c : (l.length : Int) ≤ a
  · obtain ⟨q, e2, s⟩ := laws_szHeadS.evw0 z l (by clear e; omega) h.2 l.length 0 (a - l.length) (by omega) (by clear e; omega) (by clear e; omega)
    refine ⟨q, ev_step ?_, ?_⟩
    · simp only [laws_szHeadS.f, laws_szHeadS.b, List.length_map, e]
      clear e
      exact ev_neg (by omega) e2
    · clear e
      rcases s with rfl | ⟨t1, t2, t3⟩
      · exact Or.inl rfl
      · exact Or.inr ⟨t1, by omega, ⟨by omega, t3.1⟩, by have := t3.2; rw [List.drop_zero] at this; omega⟩
  · refine ⟨-1, ev_step ?_, Or.inl rfl⟩
    simp only [laws_szHeadS.f, laws_szHeadS.b, List.length_map, e]
    clear e
    exact ev_pos (by omega) (ev_some rfl)
def hd10 (a b c : Int) (z1 : Bool) (l1 : List Int) (z2 : Bool) (l2 : List Int) (d e : Int) (z3 : Bool) (l3 : List Int) (z4 : Bool) (l4 : List Int) (z5 : Bool) (t : List T) : T := .agg [.int .i64 a, .int .i64 b, .int .i64 c, .nums 5 .u8 z1 l1, .nums 5 .u8 z2 l2, .int .i64 d, .int .i64 e, .nums 5 .u8 z3 l3, .nums 5 .u8 z4 l4, .sl 22 z5 t]
theorem laws_markHeadS.ev (z : Bool) (l : List Head) (h : FewH l) (hw : cnt Head.w l ≤ 1048576) (a : Int) (h0 : 0 ≤ a) (h1 : a ≤ 1048576) : CntR a 10000000 (fun k => laws_markHeadS.f k z (l.map Head.t) a) := by
  have hl : l.length ≤ 1048576 := h.1
  have key : ∀ (d n : Nat) (ys : List T) (c : Int), n + d = l.length → ys.length = l.length → ys.drop n = (l.map Head.t).drop n → 0 ≤ c → c + ((d * 5 + cnt Head.w (l.drop n) : Nat) : Int) ≤ 100000000 → CntR c (d * 5 + cnt Head.w (l.drop n)) (fun k => laws_markHeadS.l0 k z ys c (n : Int)) := by
    intro d
    induction d with
    | zero =>
      intro n ys c hn hy ht hc hc2
      refine ⟨(c, z, ys), ev_step ?_, Int.le_refl _, by simp only []; omega⟩
      simp only [laws_markHeadS.l0, laws_markHeadS.l0b]
      exact ev_neg (by omega) (ev_some rfl)
    | succ d ih =>
      intro n ys c hn hy ht hc hc2
      have hlt : n < l.length := by omega
      have hlt' : n < ys.length := by omega
      have hg := getD_of_drop (d := T.bad) ht hlt
      have hcd := cnt_drop Head.w hlt
      obtain ⟨f1, f2, f3, f4, f5⟩ := h.2 _ (List.getElem_mem hlt)
      have hwd : (l[n]).w = (l[n]).par.length + (l[n]).root.length + ((l[n]).q.blk.length + (l[n]).q.bits.length + cnt byW (l[n]).q.tags) := rfl
      rw [hcd, hwd] at hc2 ⊢
      generalize hu : l[n] = u at *
      have hpar : u.par.length ≤ 1048576 := f1
      have w1 : wrap64 (c + 1) = c + 1 := w64 (by omega) (by omega)
      have w2 : wrap64 (c + 1 + 1) = c + 1 + 1 := w64 (by omega) (by omega)
      have w3 : wrap64 (c + 1 + 1 + 1) = c + 1 + 1 + 1 := w64 (by omega) (by omega)
      have w4 : wrap64 (c + 1 + 1 + 1 + (u.par.length : Int) + (u.root.length : Int) + 1) = c + 1 + 1 + 1 + (u.par.length : Int) + (u.root.length : Int) + 1 := w64 (by omega) (by omega)
      have w5 : wrap64 (c + 1 + 1 + 1 + (u.par.length : Int) + (u.root.length : Int) + 1 + 1) = c + 1 + 1 + 1 + (u.par.length : Int) + (u.root.length : Int) + 1 + 1 := w64 (by omega) (by omega)
      have M1 := laws_markByteS.ev u.az u.par f1 (c + 1 + 1 + 1) ⟨by clear w1 w2 w3 w4 w5; omega, by clear w1 w2 w3 w4 w5; omega⟩
      have M2 := laws_markByteS.ev u.rz u.root f2 (c + 1 + 1 + 1 + (u.par.length : Int)) ⟨by clear w1 w2 w3 w4 w5; omega, by clear w1 w2 w3 w4 w5; omega⟩
      have M3 := laws_markByteS.ev u.q.bz u.q.blk f3 (c + 1 + 1 + 1 + (u.par.length : Int) + (u.root.length : Int) + 1 + 1) ⟨by clear w1 w2 w3 w4 w5; omega, by clear w1 w2 w3 w4 w5; omega⟩
      have M4 := laws_markByteS.ev u.q.mz u.q.bits f4 (c + 1 + 1 + 1 + (u.par.length : Int) + (u.root.length : Int) + 1 + 1 + (u.q.blk.length : Int)) ⟨by clear w1 w2 w3 w4 w5; omega, by clear w1 w2 w3 w4 w5; omega⟩
      have M5 := laws_markByteSS.ev u.q.tz u.q.tags f5 (c + 1 + 1 + 1 + (u.par.length : Int) + (u.root.length : Int) + 1 + 1 + (u.q.blk.length : Int) + (u.q.bits.length : Int)) (by clear w1 w2 w3 w4 w5; omega) (by clear w1 w2 w3 w4 w5; omega)
      have ht' : ys.drop (n + 1) = (l.map Head.t).drop (n + 1) := by
        have := congrArg (List.drop 1) ht
        simpa [List.drop_drop] using this
      have e1 : laws_markHeadS.y1 ys c (n : Int) = ys.set n (hd10 c u.h u.p u.az u.par u.rz u.root u.q.v u.q.h u.q.bz u.q.blk u.q.mz u.q.bits u.q.tz (u.q.tags.map By.t)) := by
        simp only [laws_markHeadS.y1, Int.toNat_natCast, hg]
        rfl
      have e2 : laws_markHeadS.y2 ys c (n : Int) = ys.set n (hd10 c (c + 1) u.p u.az u.par u.rz u.root u.q.v u.q.h u.q.bz u.q.blk u.q.mz u.q.bits u.q.tz (u.q.tags.map By.t)) := by
        simp only [laws_markHeadS.y2, e1, Int.toNat_natCast, set_set, getD_self hlt', w1]
        rfl
      have e3 : laws_markHeadS.y3 ys c (n : Int) = ys.set n (hd10 c (c + 1) (c + 1 + 1) u.az u.par u.rz u.root u.q.v u.q.h u.q.bz u.q.blk u.q.mz u.q.bits u.q.tz (u.q.tags.map By.t)) := by
        simp only [laws_markHeadS.y3, e2, Int.toNat_natCast, set_set, getD_self hlt', w1, w2]
        rfl
      have e4 : ∀ t : Int × Bool × List Int, laws_markHeadS.y4 ys c (n : Int) t = ys.set n (hd10 c (c + 1) (c + 1 + 1) t.2.1 t.2.2 u.rz u.root u.q.v u.q.h u.q.bz u.q.blk u.q.mz u.q.bits u.q.tz (u.q.tags.map By.t)) := fun t => by
        simp only [laws_markHeadS.y4, e3, Int.toNat_natCast, set_set, getD_self hlt']
        rfl
      have e5 : ∀ t s : Int × Bool × List Int, laws_markHeadS.y5 ys c (n : Int) t s = ys.set n (hd10 c (c + 1) (c + 1 + 1) t.2.1 t.2.2 s.2.1 s.2.2 u.q.v u.q.h u.q.bz u.q.blk u.q.mz u.q.bits u.q.tz (u.q.tags.map By.t)) := fun t s => by
        simp only [laws_markHeadS.y5, e4, Int.toNat_natCast, set_set, getD_self hlt']
        rfl
      have e6 : ∀ t s : Int × Bool × List Int, laws_markHeadS.y6 ys c (n : Int) t s = ys.set n (hd10 c (c + 1) (c + 1 + 1) t.2.1 t.2.2 s.2.1 s.2.2 s.1 u.q.h u.q.bz u.q.blk u.q.mz u.q.bits u.q.tz (u.q.tags.map By.t)) := fun t s => by
        simp only [laws_markHeadS.y6, e5, Int.toNat_natCast, set_set, getD_self hlt']
        rfl
      have e7 : ∀ t s : Int × Bool × List Int, laws_markHeadS.y7 ys c (n : Int) t s = ys.set n (hd10 c (c + 1) (c + 1 + 1) t.2.1 t.2.2 s.2.1 s.2.2 s.1 (wrap64 (s.1 + 1)) u.q.bz u.q.blk u.q.mz u.q.bits u.q.tz (u.q.tags.map By.t)) := fun t s => by
        simp only [laws_markHeadS.y7, e6, Int.toNat_natCast, set_set, getD_self hlt']
        rfl
      have e8 : ∀ t s r : Int × Bool × List Int, laws_markHeadS.y8 ys c (n : Int) t s r = ys.set n (hd10 c (c + 1) (c + 1 + 1) t.2.1 t.2.2 s.2.1 s.2.2 s.1 (wrap64 (s.1 + 1)) r.2.1 r.2.2 u.q.mz u.q.bits u.q.tz (u.q.tags.map By.t)) := fun t s r => by
        simp only [laws_markHeadS.y8, e7, Int.toNat_natCast, set_set, getD_self hlt']
        rfl
      have e9 : ∀ t s r q : Int × Bool × List Int, laws_markHeadS.y9 ys c (n : Int) t s r q = ys.set n (hd10 c (c + 1) (c + 1 + 1) t.2.1 t.2.2 s.2.1 s.2.2 s.1 (wrap64 (s.1 + 1)) r.2.1 r.2.2 q.2.1 q.2.2 u.q.tz (u.q.tags.map By.t)) := fun t s r q => by
        simp only [laws_markHeadS.y9, e8, Int.toNat_natCast, set_set, getD_self hlt']
        rfl
      have e10 : ∀ (t s r q : Int × Bool × List Int) (p : Int × Bool × List T), laws_markHeadS.y10 ys c (n : Int) t s r q p = ys.set n (hd10 c (c + 1) (c + 1 + 1) t.2.1 t.2.2 s.2.1 s.2.2 s.1 (wrap64 (s.1 + 1)) r.2.1 r.2.2 q.2.1 q.2.2 p.2.1 p.2.2) := fun t s r q p => by
        simp only [laws_markHeadS.y10, e9, Int.toNat_natCast, set_set, getD_self hlt']
        rfl
      obtain ⟨p, e, p1, p2⟩ := ih (n + 1) (ys.set n (hd10 c (c + 1) (c + 1 + 1) u.az (mk8 u.par.length (c + 1 + 1 + 1)) u.rz (mk8 u.root.length (c + 1 + 1 + 1 + (u.par.length : Int))) (c + 1 + 1 + 1 + (u.par.length : Int) + (u.root.length : Int)) (c + 1 + 1 + 1 + (u.par.length : Int) + (u.root.length : Int) + 1) u.q.bz (mk8 u.q.blk.length (c + 1 + 1 + 1 + (u.par.length : Int) + (u.root.length : Int) + 1 + 1)) u.q.mz (mk8 u.q.bits.length (c + 1 + 1 + 1 + (u.par.length : Int) + (u.root.length : Int) + 1 + 1 + (u.q.blk.length : Int))) u.q.tz ((mkTags u.q.tags (c + 1 + 1 + 1 + (u.par.length : Int) + (u.root.length : Int) + 1 + 1 + (u.q.blk.length : Int) + (u.q.bits.length : Int))).map By.t))) (c + 1 + 1 + 1 + (u.par.length : Int) + (u.root.length : Int) + 1 + 1 + (u.q.blk.length : Int) + (u.q.bits.length : Int) + (cnt byW u.q.tags : Nat)) (by omega) (by simp [hy]) (by rw [drop_set_lt (by omega)]; exact ht') (by clear w1 w2 w3 w4 w5; omega) (by clear w1 w2 w3 w4 w5; omega)
      refine ⟨p, ev_step ?_, by clear w1 w2 w3 w4 w5; omega, by clear w1 w2 w3 w4 w5; omega⟩
      simp only [laws_markHeadS.l0, laws_markHeadS.l0b, e1, e2, e3, e4, e5, e6, e7, e8, e9, e10, Int.toNat_natCast, succ_nat n (by omega), w1, w2, w3, set_set, getD_self hlt', List.length_set]
      refine ev_pos (by omega) (ev_pos (by omega) (ev_pos (by omega) (ev_pos (by omega) (ev_pos (by omega) (ev_pos (by omega) (ev_pos (by omega) (ev_pos (by omega) (ev_pos (by omega) (Ev.bind M1 (ev_pos (by omega) (ev_pos (by omega) (Ev.bind M2 ?_))))))))))))
      simp only [w4, w5]
      exact ev_pos (by omega) (ev_pos (by omega) (ev_pos (by omega) (ev_pos (by omega) (ev_pos (by omega) (ev_pos (by omega) (Ev.bind M3 (ev_pos (by omega) (ev_pos (by omega) (Ev.bind M4 (ev_pos (by omega) (ev_pos (by omega) (Ev.bind M5 e))))))))))))
  have hd0 : l.drop 0 = l := List.drop_zero
  obtain ⟨p, e, p1, p2⟩ := key l.length 0 (l.map Head.t) a (by omega) (by simp) rfl h0 (by rw [hd0]; omega)
  rw [hd0] at p2
  refine ⟨p, ev_step ?_, p1, by omega⟩
  simp only [laws_markHeadS.f, laws_markHeadS.b]
  exact e

def kids (a b c d e : Int) (l : List Head) (x : Head) : List Head := l.filter fun y => links a b c d e x y
def tipsOf (a b c d e : Int) (l : List Head) (m : List Head) : List By := (m.filter fun x => (kids a b c d e l x).isEmpty).map fun x => ⟨(hash a b c d e x).1, (hash a b c d e x).2⟩
def tipsV (a b c d e : Int) (l : List Head) : List By := if forestOk a b c d e l = true then tipsOf a b c d e l l else []
theorem impl_childrenOf.ev (a b c d e : Int) (ha : i64r a) (z : Bool) (l : List Head) (hl : NiceH l) (x : Head) (hx : x.nice) : Ev (fun k => impl_childrenOf.f k a b c d e z (l.map Head.t) x.v x.h x.p x.az x.par x.rz x.root x.q.v x.q.h x.q.bz x.q.blk x.q.mz x.q.bits x.q.tz (x.q.tags.map By.t)) (false, (kids a b c d e l x).map Head.t) := by
  have hN := hl.1
  refine ev_step ?_
  simp only [impl_childrenOf.f, impl_childrenOf.b, List.length_map]
  have key : ∀ (d' n : Nat), n + d' = l.length → Ev (fun k => impl_childrenOf.l0 k (((l.take n).filter fun y => links a b c d e x y).map Head.t) z (l.map Head.t) (l.length : Int) (n : Int) a b c d e z (l.map Head.t) x.v x.h x.p x.az x.par x.rz x.root x.q.v x.q.h x.q.bz x.q.blk x.q.mz x.q.bits x.q.tz (x.q.tags.map By.t)) (false, (kids a b c d e l x).map Head.t) := by
    intro d'
    induction d' with
    | zero =>
      intro n hn
      refine ev_step ?_
      simp only [impl_childrenOf.l0, impl_childrenOf.l0b]
      rw [List.take_of_length_le (by omega)]
      exact ev_neg (by omega) (ev_some rfl)
    | succ d' ih =>
      intro n hn
      have hlt : n < l.length := by omega
      have i2 := ih (n + 1) (by omega)
      have hf := List.length_filter_le (fun y => links a b c d e x y) (l.take n)
      rw [List.length_take] at hf
      rw [List.take_succ_eq_append_getElem hlt, List.filter_append] at i2
      refine ev_step ?_
      simp only [impl_childrenOf.l0, impl_childrenOf.l0b, List.length_map, Int.toNat_natCast, head_at hlt, Head.c0, Head.c1, Head.c2, Head.c3, Head.c3z, Head.c4, Head.c4z, Head.c5, Head.c6, Head.c7, Head.c7z, Head.c8, Head.c8z, Head.c9, Head.c9z, succ_nat n (by omega)]
      refine ev_pos (by omega) (ev_pos (by omega) (ev_pos (by omega) (Ev.bind (impl_Links.ev a b c d e ha x l[n] hx (hl.2 _ (List.getElem_mem hlt))) (ev_ite (fun q => ev_pos (by omega) ?_) (fun q => ?_)))))
      · simp only [List.filter_cons, q, if_true, List.filter_nil, List.map_append, List.map_cons, List.map_nil] at i2
        exact i2
      · simp only [List.filter_cons, if_neg q, List.filter_nil, List.append_nil] at i2
        exact i2
  exact key l.length 0 (by omega)
theorem impl_Tips.ev (a b c d e : Int) (ha : i64r a) (z : Bool) (l : List Head) (hl : NiceH l) : ∃ y, Ev (fun k => impl_Tips.f k a b c d e z (l.map Head.t)) (y, (tipsV a b c d e l).map By.t) := by
  have hN := hl.1
  by_cases ok : forestOk a b c d e l = true
  · refine ⟨false, ev_step ?_⟩
    simp only [impl_Tips.f, impl_Tips.b, List.length_map]
    refine Ev.bind (impl_ForestOk.ev a b c d e ha z l hl) (ev_neg (by simp [ok]) ?_)
    unfold tipsV
    rw [if_pos ok]
    have key : ∀ (d' n : Nat), n + d' = l.length → Ev (fun k => impl_Tips.l0 k ((tipsOf a b c d e l (l.take n)).map By.t) z (l.map Head.t) (l.length : Int) (n : Int) a b c d e z (l.map Head.t)) (false, (tipsOf a b c d e l l).map By.t) := by
      intro d'
      induction d' with
      | zero =>
        intro n hn
        refine ev_step ?_
        simp only [impl_Tips.l0, impl_Tips.l0b]
        rw [List.take_of_length_le (by omega)]
        exact ev_neg (by omega) (ev_some rfl)
      | succ d' ih =>
        intro n hn
        have hlt : n < l.length := by omega
        have hx := hl.2 _ (List.getElem_mem hlt)
        have i2 := ih (n + 1) (by omega)
        have hf := List.length_filter_le (fun x => (kids a b c d e l x).isEmpty) (l.take n)
        rw [List.length_take] at hf
        have hlen : (tipsOf a b c d e l (l.take n)).length ≤ 1048576 := by unfold tipsOf; rw [List.length_map]; omega
        have K := impl_childrenOf.ev a b c d e ha z l hl l[n] hx
        refine ev_step ?_
        simp only [impl_Tips.l0, impl_Tips.l0b, List.length_map, Int.toNat_natCast, head_at hlt, Head.c0, Head.c1, Head.c2, Head.c3, Head.c3z, Head.c4, Head.c4z, Head.c5, Head.c6, Head.c7, Head.c7z, Head.c8, Head.c8z, Head.c9, Head.c9z, succ_nat n (by omega)]
        refine ev_pos (by omega) (ev_pos (by omega) (ev_pos (by omega) (Ev.bind K (ev_ite (fun q => Ev.bind (impl_HeadHash.ev a b c d e ha l[n] hx) (ev_pos (by omega) ?_)) (fun q => ?_)))))
        · have q : (kids a b c d e l l[n]).isEmpty = true := by
            simp only [List.length_map] at q
            rw [List.isEmpty_iff]
            exact List.eq_nil_of_length_eq_zero (by omega)
          unfold tipsOf at i2 ⊢
          rw [List.take_succ_eq_append_getElem hlt, List.filter_append] at i2
          simp only [List.filter_cons, q, if_true, List.filter_nil, List.map_append, List.map_cons, List.map_nil] at i2 ⊢
          exact i2
        · have q : ¬ (kids a b c d e l l[n]).isEmpty = true := fun hh => by
            rw [List.isEmpty_iff] at hh
            rw [hh] at q
            simp at q
          unfold tipsOf at i2 ⊢
          rw [List.take_succ_eq_append_getElem hlt, List.filter_append] at i2
          simp only [List.filter_cons, if_neg q, List.filter_nil, List.append_nil] at i2
          exact i2
    exact key l.length 0 (by omega)
  · refine ⟨true, ev_step ?_⟩
    simp only [impl_Tips.f, impl_Tips.b, List.length_map]
    unfold tipsV
    rw [if_neg ok]
    exact Ev.bind (impl_ForestOk.ev a b c d e ha z l hl) (ev_pos (by simpa using ok) (ev_some rfl))
theorem spec_Tips.ev (a b c d e : Int) (ha : i64r a) (z : Bool) (l : List Head) (hl : NiceH l) : Ev (fun k => spec_Tips.f k a b c d e z (l.map Head.t)) (false, (tipsV a b c d e l).map By.t) := by
  have hN := hl.1
  refine ev_step ?_
  simp only [spec_Tips.f, spec_Tips.b, List.length_map]
  unfold tipsV
  refine Ev.bind (spec_ForestOk.ev a b c d e ha z l hl) (ev_ite (fun q => ev_some (by rw [if_neg (by simpa using q)]; rfl)) (fun q => ?_))
  have ok : forestOk a b c d e l = true := by simpa using q
  rw [if_pos ok]
  have inner : ∀ (n : Nat) (hlt : n < l.length) (R : Bool × List T), Ev (fun k => spec_Tips.l0 k ((tipsOf a b c d e l (l.take (n + 1))).map By.t) z (l.map Head.t) (l.length : Int) ((n + 1 : Nat) : Int) a b c d e z (l.map Head.t)) R → ∀ (m j : Nat), j + m = l.length → Ev (fun k => spec_Tips.l1 k ((tipsOf a b c d e l (l.take n)).map By.t) ((l.take j).all fun y => !links a b c d e l[n] y) z (l.map Head.t) (l.length : Int) (n : Int) z (l.map Head.t) (l.length : Int) (j : Int) a b c d e z (l.map Head.t) l[n].v l[n].h l[n].p l[n].az l[n].par l[n].rz l[n].root l[n].q.v l[n].q.h l[n].q.bz l[n].q.blk l[n].q.mz l[n].q.bits l[n].q.tz (l[n].q.tags.map By.t)) R := by
    intro n hlt R i2 m
    have hx := hl.2 _ (List.getElem_mem hlt)
    have hf := List.length_filter_le (fun x => (kids a b c d e l x).isEmpty) (l.take n)
    rw [List.length_take] at hf
    have hlen : (tipsOf a b c d e l (l.take n)).length ≤ 1048576 := by unfold tipsOf; rw [List.length_map]; omega
    induction m with
    | zero =>
      intro j hj
      have ej : (l.take j) = l := List.take_of_length_le (by omega)
      have ek : (l.all fun y => !links a b c d e l[n] y) = (kids a b c d e l l[n]).isEmpty := by
        unfold kids
        rw [Bool.eq_iff_iff, List.all_eq_true, List.isEmpty_iff, List.filter_eq_nil_iff]
        exact ⟨fun h x hx hh => by have := h x hx; rw [hh] at this; simp at this, fun h x hx => by have := h x hx; simpa using this⟩
      rw [ej, ek]
      refine ev_step ?_
      simp only [spec_Tips.l1, spec_Tips.l1b, List.length_map, succ_nat n (by omega)]
      refine ev_neg (by omega) ?_
      cases q : (kids a b c d e l l[n]).isEmpty with
      | true =>
        refine ev_pos rfl (Ev.bind (spec_HeadHash.ev a b c d e ha l[n] hx) (ev_pos (by omega) ?_))
        unfold tipsOf at i2 ⊢
        rw [List.take_succ_eq_append_getElem hlt, List.filter_append] at i2
        simp only [List.filter_cons, q, if_true, List.filter_nil, List.map_append, List.map_cons, List.map_nil] at i2 ⊢
        exact i2
      | false =>
        refine ev_neg (by simp) ?_
        unfold tipsOf at i2 ⊢
        rw [List.take_succ_eq_append_getElem hlt, List.filter_append] at i2
        simp only [List.filter_cons, q, Bool.false_eq_true, if_false, List.filter_nil, List.append_nil] at i2
        exact i2
    | succ m ih =>
      intro j hj
      have hjl : j < l.length := by omega
      have i3 := ih (j + 1) (by omega)
      rw [List.take_succ_eq_append_getElem hjl, List.all_append] at i3
      simp only [List.all_cons, List.all_nil, Bool.and_true] at i3
      refine ev_step ?_
      simp only [spec_Tips.l1, spec_Tips.l1b, List.length_map, Int.toNat_natCast, head_at hjl, Head.c0, Head.c1, Head.c2, Head.c3, Head.c3z, Head.c4, Head.c4z, Head.c5, Head.c6, Head.c7, Head.c7z, Head.c8, Head.c8z, Head.c9, Head.c9z, succ_nat j (by omega)]
      refine ev_pos (by omega) (ev_pos (by omega) (ev_pos (by omega) (ev_ite (fun q => Ev.bind (spec_Links.ev a b c d e ha l[n] l[j] hx (hl.2 _ (List.getElem_mem hjl))) ?_) (fun q => ?_))))
      · rw [q, Bool.true_and] at i3
        exact i3
      · have q : ((l.take j).all fun y => !links a b c d e l[n] y) = false := by simpa using q
        rw [q, Bool.false_and] at i3
        exact i3
  have key : ∀ (m n : Nat), n + m = l.length → Ev (fun k => spec_Tips.l0 k ((tipsOf a b c d e l (l.take n)).map By.t) z (l.map Head.t) (l.length : Int) (n : Int) a b c d e z (l.map Head.t)) (false, (tipsOf a b c d e l l).map By.t) := by
    intro m
    induction m with
    | zero =>
      intro n hn
      refine ev_step ?_
      simp only [spec_Tips.l0, spec_Tips.l0b]
      rw [List.take_of_length_le (by omega)]
      exact ev_neg (by omega) (ev_some rfl)
    | succ m ih =>
      intro n hn
      have hlt : n < l.length := by omega
      have i2 := inner n hlt _ (ih (n + 1) (by omega)) l.length 0 (by omega)
      refine ev_step ?_
      simp only [spec_Tips.l0, spec_Tips.l0b, List.length_map, Int.toNat_natCast, head_at hlt, Head.c0, Head.c1, Head.c2, Head.c3, Head.c3z, Head.c4, Head.c4z, Head.c5, Head.c6, Head.c7, Head.c7z, Head.c8, Head.c8z, Head.c9, Head.c9z]
      exact ev_pos (by omega) (ev_pos (by omega) (ev_pos (by omega) i2))
  exact key l.length 0 (by omega)
theorem tipsV_few {a b c d e : Int} {l : List Head} (h : l.length ≤ 1048576) : FewB (tipsV a b c d e l) := by
  unfold tipsV
  split
  · have hf := List.length_filter_le (fun x => (kids a b c d e l x).isEmpty) l
    refine ⟨by unfold tipsOf; rw [List.length_map]; omega, fun x hx => ?_⟩
    obtain ⟨y, _, rfl⟩ := List.mem_map.1 hx
    show okB (hash a b c d e y).2
    unfold hash
    split
    · unfold okB
      rw [(sha_spec _).1]
      decide
    · simp [okB]
  · exact ⟨by simp, by simp⟩
theorem laws_FnExactTips.ev (x : Fo) (ha : i64r x.l0) (hl : FitH x.heads) (hb : BytH x.heads) : Ev (fun k => laws_FnExactTips.f k x.l0 x.l1 x.l2 x.l3 x.l4 x.hz (x.heads.map Head.t)) true := by
  refine ev_step ?_
  simp only [laws_FnExactTips.f, laws_FnExactTips.b]
  obtain ⟨r, e1, s⟩ := laws_szHeadS.evw x.hz x.heads hl 1048576 (by omega) (by omega)
  have Z : Ev (fun k => laws_szForest.f k x.l0 x.l1 x.l2 x.l3 x.l4 x.hz (x.heads.map Head.t) 1048576) r := by
    refine ev_step ?_
    simp only [laws_szForest.f, laws_szForest.b]
    exact Ev.bind e1 (ev_ite (fun q => ev_some (by rcases s with s | s <;> omega)) (fun q => ev_some rfl))
  rcases s with rfl | ⟨s1, s2, few, wt⟩
  · exact Ev.bind Z (ev_pos (by omega) (ev_some rfl))
  refine Ev.bind Z (ev_neg (by omega) ?_)
  have T : Ev (fun k => laws_toForest.f k x.l0 x.l1 x.l2 x.l3 x.l4 x.hz (x.heads.map Head.t)) (x.l0, x.l1, x.l2, x.l3, x.l4, false, (x.heads.map Head.cp).map Head.t) := by
    refine ev_step ?_
    simp only [laws_toForest.f, laws_toForest.b]
    exact Ev.bind (laws_toLimits.ev _ _ _ _ _) (Ev.bind (laws_toHeadS.ev _ _ few) (ev_some rfl))
  have few2 := fewH_cp few
  have B := niceH_cp few hb
  have wt2 : cnt Head.w (x.heads.map Head.cp) ≤ 1048576 := by
    have : cnt Head.w (x.heads.map Head.cp) = cnt Head.w x.heads := by
      unfold cnt
      rw [List.map_map]
      congr 1
      refine List.map_congr_left fun y _ => ?_
      show y.par.length + y.root.length + (y.q.blk.length + y.q.bits.length + cnt byW (y.q.tags.map By.cp)) = y.par.length + y.root.length + (y.q.blk.length + y.q.bits.length + cnt byW y.q.tags)
      congr 2
      unfold cnt
      rw [List.map_map]
      rfl
    omega
  have Q : Ev (fun k => laws_eqForest.f k x.l0 x.l1 x.l2 x.l3 x.l4 false ((x.heads.map Head.cp).map Head.t) x.l0 x.l1 x.l2 x.l3 x.l4 false ((x.heads.map Head.cp).map Head.t)) true := by
    refine ev_step ?_
    simp only [laws_eqForest.f, laws_eqForest.b]
    exact Ev.bind (laws_eqLimits.ev _ _ _ _ _) (ev_neg (by simp) (Ev.bind (laws_eqHeadS.ev _ _ _ few2) (ev_neg (by simp) (ev_some rfl))))
  have S := spec_Tips.ev x.l0 x.l1 x.l2 x.l3 x.l4 ha false _ B
  obtain ⟨y, I⟩ := impl_Tips.ev x.l0 x.l1 x.l2 x.l3 x.l4 ha false _ B
  have fw := tipsV_few (a := x.l0) (b := x.l1) (c := x.l2) (d := x.l3) (e := x.l4) B.1
  generalize tipsV x.l0 x.l1 x.l2 x.l3 x.l4 (x.heads.map Head.cp) = v at *
  obtain ⟨p, mh, p1, p2⟩ := laws_markHeadS.ev false _ few2 wt2 1 (by omega) (by omega)
  have MF : Ev (fun k => laws_markForest.f k x.l0 x.l1 x.l2 x.l3 x.l4 false ((x.heads.map Head.cp).map Head.t) 1) (p.1, x.l0, x.l1, x.l2, x.l3, x.l4, p.2.1, p.2.2) := by
    refine ev_step ?_
    simp only [laws_markForest.f, laws_markForest.b]
    exact Ev.bind mh (ev_some rfl)
  have E := laws_eqByteSS.ev y false v fw
  have M := laws_markByteSS.ev y v fw 1 (by omega) (by omega)
  have H := laws_heldByteSS.ev y v fw 1 (by omega) (by omega)
  exact Ev.bind T (Ev.bind S (Ev.bind T (Ev.bind I (Ev.bind E (ev_neg (by simp) (Ev.bind T (Ev.bind Q (ev_neg (by simp) (Ev.bind MF (ev_neg (by simp only []; omega) (Ev.bind E (ev_neg (by simp) (Ev.bind M (Ev.bind H (ev_neg (by omega) (ev_neg (by simp) (Ev.bind T (Ev.bind I (Ev.bind E (ev_neg (by simp) (Ev.bind H (ev_neg (by omega) (ev_neg (by simp) (ev_some rfl))))))))))))))))))))))))
theorem laws_FnExactTips.top (x0 : Fo) (g0 : Fo.good x0) : Ev (fun k => laws_FnExactTips.f k x0.l0 x0.l1 x0.l2 x0.l3 x0.l4 x0.hz (x0.heads.map Head.t)) true :=
  laws_FnExactTips.ev x0 (goodI_bd g0.1.1) (fitH_of g0.2) (bytH_of g0.2)
end Go.Proofs.YtbpcnodmgphinaaG
