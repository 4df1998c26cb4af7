/- Words on rounds, rows and numbers, for whatever is printed. No condition. -/
import Derived.Test.YtnkkdiiheannaaaWWords
namespace Go.Proofs.YtnkkdiiheannaaaR
open Go.RowKit Go.Proofs.YtnkkdiiheannaaaW.PrintWords

section
variable {α β : Type} {c : Prop} [Decidable c] {g f : Nat → Option α} {r : α}
theorem ev_ite (h : c → Ev g r) (h' : ¬c → Ev f r) : Ev (fun k => if c then g k else f k) r := by
  by_cases hc : c
  · simp only [if_pos hc]; exact h hc
  · simp only [if_neg hc]; exact h' hc
theorem ev_pos (hc : c) (h : Ev g r) : Ev (fun k => if c then g k else f k) r := by simp only [if_pos hc]; exact h
theorem ev_neg (hc : ¬c) (h : Ev f r) : Ev (fun k => if c then g k else f k) r := by simp only [if_neg hc]; exact h
theorem ev_some {x : α} (h : x = r) : Ev (fun _ => some x) r := h ▸ Ev.now _
theorem ev_eq {o : Option α} (h : o = some r) : Ev (fun _ => o) r := by rw [h]; exact Ev.now _
theorem ev_bind0 {o : Option α} {x : α} {q : Nat → α → Option β} {s : β} (h : o = some x) (k : Ev (fun n => q n x) s) : Ev (fun n => o.bind (q n)) s := by rw [h]; exact k
theorem ev_step {p : Nat → Option α} (h : Ev (fun k => p (k + 1)) r) : Ev p r := Ev.step (f := fun k => p (k + 1)) (fun _ => rfl) h
theorem ev_to {x : α} (h : Ev g x) (e : x = r) : Ev g r := e ▸ h
theorem ev_uniq {x y : α} (h : Ev g x) (h' : Ev g y) : x = y := by
  obtain ⟨K, hK⟩ := h
  obtain ⟨K', hK'⟩ := h'
  have a := hK (max K K') (Nat.le_max_left _ _)
  have b := hK' (max K K') (Nat.le_max_right _ _)
  exact Option.some.inj (a.symm.trans b)
theorem ev_uniq0 {α : Type} {o : Option α} {x : α} (h : Ev (fun _ => o) x) : o = some x := by
  obtain ⟨K, hK⟩ := h
  exact hK K (Nat.le_refl _)
end

/-! numbers -/
theorem w64 {n : Int} (h : -9223372036854775808 ≤ n) (h' : n ≤ 9223372036854775807) : wrap64 n = n := by unfold wrap64; omega
theorem w64s {n : Nat} (h : n < 9223372036854775807) : wrap64 ((n : Int) + 1) = ((n + 1 : Nat) : Int) := by unfold wrap64; omega
theorem w64p {n : Nat} (h : n ≤ 9223372036854775807) (h0 : 0 < n) : wrap64 ((n : Int) - 1) = ((n - 1 : Nat) : Int) := by unfold wrap64; omega
theorem wrap_bd (n : Int) : -9223372036854775808 ≤ wrap64 n ∧ wrap64 n ≤ 9223372036854775807 := by unfold wrap64; omega
theorem wf64 {n : Int} (h : (Lit.int .i64 n).wf = true) : -9223372036854775808 ≤ n ∧ n ≤ 9223372036854775807 := by
  simp [Lit.wf, IntKind.min, IntKind.max, IntKind.signed, IntKind.bits] at h
  omega
theorem wf8 {n : Int} (h : (Lit.int .u8 n).wf = true) : 0 ≤ n ∧ n < 256 := by
  simp [Lit.wf, IntKind.min, IntKind.max, IntKind.signed, IntKind.bits] at h
  omega
theorem toNat_nat (n : Nat) : ((n : Int)).toNat = n := rfl

/-! rows -/
theorem rd_nat {l : List Int} {n : Nat} (h : n < l.length) : rd l (n : Int) = l[n] := by simp [rd, h]
theorem drop_rd {l : List Int} {n : Nat} (h : n < l.length) : l.drop n = rd l (n : Int) :: l.drop (n + 1) := by rw [rd_nat h]; exact List.drop_eq_getElem_cons h
theorem getD_nat {α : Type} {l : List α} {n : Nat} (d : α) (h : n < l.length) : l.getD ((n : Int)).toNat d = l[n] := by simp [h]
theorem drop_getD {α : Type} {l : List α} {n : Nat} (d : α) (h : n < l.length) : l.drop n = l.getD ((n : Int)).toNat d :: l.drop (n + 1) := by rw [getD_nat d h]; exact List.drop_eq_getElem_cons h

/-- A loop that fills a row, element by element. -/
theorem ev_fill {α β : Type} (xs : List α) (c : Nat → β) (g : Nat → List β → Int → Option (List β))
    (step : ∀ (n : Nat) (ys : List β) (r : List β), n < xs.length → ys.length = xs.length → Ev (fun k => g k (ys.set n (c n)) ((n + 1 : Nat) : Int)) r → Ev (fun k => g k ys (n : Int)) r)
    (stop : ∀ ys : List β, ys.length = xs.length → Ev (fun k => g k ys (xs.length : Int)) ys) :
    ∀ (d n : Nat) (ys : List β), n + d = xs.length → ys.length = xs.length → Ev (fun k => g k ys (n : Int)) (ys.take n ++ (List.range d).map (fun i => c (n + i)))
  | 0, n, ys, hn, hl => by
    obtain rfl : n = xs.length := by omega
    rw [List.take_of_length_le (by omega)]
    simpa using stop ys hl
  | d + 1, n, ys, hn, hl => by
    refine step n ys _ (by omega) hl (ev_to (ev_fill xs c g step stop d (n + 1) (ys.set n (c n)) (by omega) (by simpa using hl)) ?_)
    rw [List.range_succ_eq_map, List.map_cons, List.map_map, List.take_succ_eq_append_getElem (by simp; omega)]
    simp only [List.take_set_of_le (Nat.le_refl n), List.getElem_set_self, List.append_assoc, List.singleton_append, Nat.add_zero]
    congr 2
    apply List.map_congr_left
    intro i _
    show c (n + 1 + i) = c (n + (i + 1))
    congr 1
    omega
theorem map_range_get {α β : Type} (xs : List α) (d : α) (f : α → β) : (List.range xs.length).map (fun i => f (xs.getD i d)) = xs.map f := by
  apply List.ext_getElem
  · simp
  · intro i h1 h2
    simp at h1 h2
    simp [h2]
/-- A loop that holds two rows against each other, or asks each element: told where all fit. -/
theorem ev_all {ρ : Type} (m : Nat) (g : Nat → Int → Option ρ) (r : ρ)
    (step : ∀ n : Nat, n < m → Ev (fun k => g k ((n + 1 : Nat) : Int)) r → Ev (fun k => g k (n : Int)) r) (stop : Ev (fun k => g k (m : Int)) r) : ∀ (d n : Nat), n + d = m → Ev (fun k => g k (n : Int)) r
  | 0, n, h => by
    obtain rfl : n = m := by omega
    exact stop
  | d + 1, n, h => step n (by omega) (ev_all m g r step stop d (n + 1) (by omega))

/-- Does p hold of m numbers from i on? -/
def allFrom (p : Nat → Bool) : Nat → Nat → Bool
  | _, 0 => true
  | i, m + 1 => p i && allFrom p (i + 1) m
theorem allFrom_iff (p : Nat → Bool) : ∀ (m i : Nat), allFrom p i m = true ↔ ∀ j, i ≤ j → j < i + m → p j = true
  | 0, i => by simp [allFrom]; omega
  | m + 1, i => by
    have ih := allFrom_iff p m (i + 1)
    rw [allFrom, Bool.and_eq_true, ih]
    constructor
    · rintro ⟨h1, h2⟩ j hj hm
      by_cases e : j = i
      · rw [e]; exact h1
      · exact h2 j (by omega) (by omega)
    · intro h
      exact ⟨h i (by omega) (by omega), fun j hj hm => h j (by omega) (by omega)⟩
/-- A loop that asks each number in turn, and ends at the first 'no'. -/
theorem ev_allp (g : Nat → Int → Option Bool) (m : Nat) (p : Nat → Bool)
    (yes : ∀ n : Nat, n < m → p n = true → ∀ r, Ev (fun k => g k ((n + 1 : Nat) : Int)) r → Ev (fun k => g k (n : Int)) r)
    (no : ∀ n : Nat, n < m → p n = false → Ev (fun k => g k (n : Int)) false) (stop : Ev (fun k => g k (m : Int)) true) : ∀ (d n : Nat), n + d = m → Ev (fun k => g k (n : Int)) (allFrom p n d)
  | 0, n, h => by
    obtain rfl : n = m := by omega
    exact stop
  | d + 1, n, h => by
    cases e : p n with
    | true =>
      rw [allFrom, e, Bool.true_and]
      exact yes n (by omega) e _ (ev_allp g m p yes no stop d (n + 1) (by omega))
    | false =>
      rw [allFrom, e, Bool.false_and]
      exact no n (by omega) e

/-! sizes -/
def okB (l : List Int) : Prop := l.length ≤ 1048576
def okBB (l : List (List Int)) : Prop := l.length ≤ 1048576 ∧ ∀ x ∈ l, okB x
def niceB (l : List Int) : Prop := l.length ≤ 1048576 ∧ ∀ x ∈ l, 0 ≤ x ∧ x < 256
def niceBB (l : List (List Int)) : Prop := l.length ≤ 1048576 ∧ ∀ x ∈ l, niceB x
def i64r (n : Int) : Prop := -9223372036854775808 ≤ n ∧ n ≤ 9223372036854775807
def niceI (l : List Int) : Prop := l.length ≤ 1048576 ∧ ∀ x ∈ l, i64r x
theorem niceB_ok {l : List Int} (h : niceB l) : okB l := h.1
theorem niceBB_ok {l : List (List Int)} (h : niceBB l) : okBB l := ⟨h.1, fun x hx => (h.2 x hx).1⟩
theorem niceB_of {l : List Int} (h : l.length ≤ 9223372036854775807 ∧ ∀ x ∈ l, (Lit.int .u8 x).wf = true) (o : okB l) : niceB l := ⟨o, fun x hx => wf8 (h.2 x hx)⟩
theorem niceBB_of {l : List (List Int)} (h : l.length ≤ 9223372036854775807 ∧ ∀ x ∈ l, (x.length ≤ 9223372036854775807 ∧ ∀ y ∈ x, (Lit.int .u8 y).wf = true)) (o : okBB l) : niceBB l := ⟨o.1, fun x hx => niceB_of (h.2 x hx) (o.2 x hx)⟩
theorem niceI_of {l : List Int} (h : l.length ≤ 9223372036854775807 ∧ ∀ x ∈ l, (Lit.int .i64 x).wf = true) (o : l.length ≤ 1048576) : niceI l := ⟨o, fun x hx => wf64 (h.2 x hx)⟩
/-- What a count of what is left tells: too much, or it fits. -/
def SzR (ok : Prop) (a r : Int) : Prop := r = -1 ∨ (0 ≤ r ∧ r ≤ a ∧ ok)

/-! marks -/
/-- The marks that a row of L bytes gets, from number a on. -/
def mk8 (L : Nat) (a : Int) : List Int := (List.range L).map fun (i : Nat) => (a + (i : Int)) % 256
theorem mk8_length (L : Nat) (a : Int) : (mk8 L a).length = L := by simp [mk8]
theorem mk8_get {L : Nat} {a : Int} {i : Nat} (h : i < L) : rd (mk8 L a) (i : Int) = (a + i) % 256 := by
  rw [rd_nat (by rw [mk8_length]; exact h)]
  simp [mk8]
def MkB (ys : List Int) (a n : Int) : Prop := okB ys ∧ 0 ≤ a ∧ n = a + ys.length ∧ ys = mk8 ys.length a

/-! varints -/
def isNum (n : Int) : Bool := decide (0 ≤ n ∧ n ≤ 1152921504606846975)
def vint : Nat → Int → List Int
  | 0, n => [n]
  | m + 1, n => if n < 128 then [n] else (n % 128 + 128) :: vint m (n / 128)
theorem vint_length : ∀ (m : Nat) (n : Int), 1 ≤ (vint m n).length ∧ (vint m n).length ≤ m + 1
  | 0, n => by simp [vint]
  | m + 1, n => by
    have := vint_length m (n / 128)
    unfold vint
    split
    · simp
    · simp only [List.length_cons]; omega
theorem vint_bytes : ∀ (m : Nat) (n : Int), 0 ≤ n → n < 128 ^ (m + 1) → ∀ x ∈ vint m n, 0 ≤ x ∧ x < 256
  | 0, n, h0, h1, x, hx => by
    simp only [vint, List.mem_singleton] at hx
    subst hx
    simp at h1
    omega
  | m + 1, n, h0, h1, x, hx => by
    unfold vint at hx
    split at hx
    · simp only [List.mem_singleton] at hx
      omega
    · rcases List.mem_cons.1 hx with rfl | hx
      · omega
      · refine vint_bytes m (n / 128) (by omega) ?_ x hx
        have e : (128 : Int) ^ (m + 1 + 1) = 128 ^ (m + 1) * 128 := Int.pow_succ 128 (m + 1)
        rw [e] at h1
        generalize (128 : Int) ^ (m + 1) = q at *
        omega
def putVar (b : List Int) (n : Int) : List Int × Bool := if isNum n = true then (b ++ vint 8 n, true) else ([], false)
theorem isNum_iff {n : Int} : isNum n = true ↔ 0 ≤ n ∧ n ≤ 1152921504606846975 := by simp [isNum]
theorem num_pow {n : Int} (h : isNum n = true) : 0 ≤ n ∧ n < 128 ^ (8 + 1) := by
  have := isNum_iff.1 h
  have e : (128 : Int) ^ (8 + 1) = 9223372036854775808 := by decide
  rw [e]
  omega

/-- Numbers behind some bytes; nothing where one is no number. -/
def numbersV (acc : List Int) : List Int → List Int
  | [] => acc
  | n :: t => if isNum n = true then numbersV (acc ++ vint 8 n) t else []
def leaveBytes (a b : Int) : List Int := if isNum a = true ∧ isNum b = true then 76 :: (vint 8 a ++ vint 8 b) else []
def voteBytes (a b : Int) (h : List Int) : List Int := if isNum a = true ∧ isNum b = true ∧ h.length = 32 then 86 :: (vint 8 a ++ (vint 8 b ++ h)) else []
theorem niceB_nil : niceB [] := ⟨by simp, by simp⟩
theorem vint_nice {n : Int} (h : isNum n = true) : ∀ x ∈ vint 8 n, 0 ≤ x ∧ x < 256 := vint_bytes 8 n (num_pow h).1 (num_pow h).2
theorem leaveBytes_nice (a b : Int) : niceB (leaveBytes a b) := by
  unfold leaveBytes
  split
  · rename_i h
    have h1 := vint_length 8 a
    have h2 := vint_length 8 b
    refine ⟨by simp only [List.length_cons, List.length_append]; omega, fun x hx => ?_⟩
    rcases List.mem_cons.1 hx with rfl | hx
    · omega
    rcases List.mem_append.1 hx with hx | hx
    · exact vint_nice h.1 x hx
    · exact vint_nice h.2 x hx
  · exact niceB_nil
theorem voteBytes_nice (a b : Int) {h : List Int} (hh : niceB h) : niceB (voteBytes a b h) := by
  unfold voteBytes
  split
  · rename_i c
    have h1 := vint_length 8 a
    have h2 := vint_length 8 b
    refine ⟨by simp only [List.length_cons, List.length_append]; omega, fun x hx => ?_⟩
    rcases List.mem_cons.1 hx with rfl | hx
    · omega
    rcases List.mem_append.1 hx with hx | hx
    · exact vint_nice c.1 x hx
    rcases List.mem_append.1 hx with hx | hx
    · exact vint_nice c.2.1 x hx
    · exact hh.2 x hx
  · exact niceB_nil

theorem niceB_take {l : List Int} (h : niceB l) (n : Nat) : niceB (l.take n) := ⟨by have := h.1; simp; omega, fun x hx => h.2 x (List.mem_of_mem_take hx)⟩
theorem niceB_drop {l : List Int} (h : niceB l) (n : Nat) : niceB (l.drop n) := ⟨by have := h.1; simp; omega, fun x hx => h.2 x (List.mem_of_mem_drop hx)⟩

/-! digits -/
def hexd (n : Int) : Int := if n < 10 then 48 + n else 87 + n
def hex : List Int → List Int
  | [] => []
  | x :: t => hexd (x / 16) :: hexd (x % 16) :: hex t
theorem hex_length : ∀ l : List Int, (hex l).length = 2 * l.length
  | [] => rfl
  | x :: t => by simp only [hex, List.length_cons, hex_length t]; omega

/-! bytes compared as strings -/
def sameB (a b : List Int) : Bool := (strOfNums a).toList == (strOfNums b).toList
theorem sameB_refl (a : List Int) : sameB a a = true := by simp [sameB]

/-! names -/
def nameAt (a : Int) (l : List ByteArray) : ByteArray := if 0 ≤ a ∧ a < l.length then rdOf ByteArray.empty l a else ⟨#[]⟩
def erNames : List ByteArray := [⟨#[111, 107]⟩, ⟨#[115, 104, 111, 114, 116]⟩, ⟨#[118, 97, 114]⟩, ⟨#[108, 111, 110, 103]⟩, ⟨#[112, 97, 100]⟩, ⟨#[118, 97, 108, 117, 101]⟩, ⟨#[111, 114, 100, 101, 114]⟩, ⟨#[114, 111, 111, 116]⟩, ⟨#[107, 105, 110, 100]⟩, ⟨#[108, 101, 102, 116]⟩]
def ceNames : List ByteArray := [⟨#[111, 107]⟩, ⟨#[102, 111, 114, 109]⟩, ⟨#[116, 97, 103]⟩, ⟨#[119, 101, 105, 103, 104, 116]⟩, ⟨#[108, 105, 110, 107]⟩, ⟨#[118, 105, 101, 119]⟩]
def vdNames : List ByteArray := [⟨#[111, 116, 104, 101, 114]⟩, ⟨#[99, 111, 109, 109, 105, 116]⟩, ⟨#[107, 110, 111, 119, 110]⟩, ⟨#[114, 101, 102, 117, 115, 101, 100]⟩, ⟨#[99, 108, 97, 115, 104]⟩, ⟨#[111, 108, 100]⟩, ⟨#[105, 110]⟩, ⟨#[110, 111, 116]⟩, ⟨#[117, 110, 107, 110, 111, 119, 110]⟩, ⟨#[103, 111, 111, 100]⟩]

/-! limits -/
def limitsOk (n tx txs fr hd : Int) : Bool := decide ((1 ≤ n ∧ n ≤ 10) ∧ (0 ≤ tx ∧ tx ≤ 40) ∧ (0 ≤ txs ∧ txs ≤ 8) ∧ (1 ≤ fr ∧ fr ≤ 4000) ∧ (3 ≤ hd ∧ hd ≤ 5))

end Go.Proofs.YtnkkdiiheannaaaR
