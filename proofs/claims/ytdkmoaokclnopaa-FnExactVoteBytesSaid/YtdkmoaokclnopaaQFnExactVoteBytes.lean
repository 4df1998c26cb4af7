/- What the printed functions of FnExactVoteBytes come to, in plain terms. No condition beside those that each lemma names. -/
import Derived.Test.YtdkmoaokclnopaaFFnExactVoteBytesx0
import Derived.Test.YtdkmoaokclnopaaFFnExactVoteBytesx1
import Derived.Test.YtdkmoaokclnopaaFFnExactVoteBytesx2
import Derived.Test.YtdkmoaokclnopaaFFnExactVoteBytesx3
import Derived.Test.YtdkmoaokclnopaaBits
import Derived.Test.YtdkmoaokclnopaaCrc
import Derived.Test.YtdkmoaokclnopaaEv
import Derived.Test.YtdkmoaokclnopaaRd
namespace Go.Proofs.Ytdkmoaokclnopaa.PFnExactVoteBytes
open Go.RowKit Go.Proofs.YtdkmoaokclnopaaW.PrintWords Go.Proofs.YtdkmoaokclnopaaW.PrintLast Go.Proofs.YtdkmoaokclnopaaR
set_option linter.unusedVariables false
set_option linter.unusedSimpArgs false

theorem laws_toByteS.ev (l : List Int) (h : okB l) : Ev (fun k => laws_toByteS.f k l) l := by
  have hl : l.length ≤ 1048576 := h
  unfold laws_toByteS.f
  refine ev_pos (by omega) (ev_pos (by simp only [toNat_nat]; omega) ?_)
  refine ev_to (ev_fill l (fun i => rd l i) (fun k ys i => laws_toByteS.l0 k l ys i) ?_ ?_ l.length 0 _ (by omega) (by simp)) ?_
  · intro n ys r hn hl hr
    refine ev_step ?_
    simp only [laws_toByteS.l0]
    refine ev_pos (by omega) (ev_pos (by omega) (ev_pos (by omega) ?_))
    rw [w64s (by omega)]
    exact hr
  · intro ys hl
    refine ev_step ?_
    simp only [laws_toByteS.l0]
    exact ev_neg (by omega) (ev_some rfl)
  · have := map_range_get l 0 id
    simpa [rd] using this

theorem laws_eqByteS.ev (l : List Int) (h : okB l) : Ev (fun k => laws_eqByteS.f k l l) true := by
  have hl : l.length ≤ 1048576 := h
  unfold laws_eqByteS.f
  refine ev_pos rfl ?_
  refine ev_all l.length (fun k i => laws_eqByteS.l0 k l l i) true ?_ ?_ l.length 0 (by omega)
  · intro n hn hr
    refine ev_step ?_
    simp only [laws_eqByteS.l0]
    refine ev_pos (by omega) (ev_pos (by omega) (ev_pos (by omega) (ev_pos trivial ?_)))
    rw [w64s (by omega)]
    exact hr
  · refine ev_step ?_
    simp only [laws_eqByteS.l0]
    exact ev_neg (by omega) (ev_some rfl)

theorem laws_markByteS.ev0 (L : Nat) (hL : L ≤ 1048576) (a : Int) (h0 : 0 ≤ a) (h1 : a ≤ 4611686018427387904) : ∀ (d n : Nat) (xs : List Int), n + d = L → xs.length = L → (∀ i : Nat, i < n → rd xs (i : Int) = (a + i) % 256) → Ev (fun k => laws_markByteS.l0 k xs (a + n) (n : Int)) (a + L, mk8 L a) := by
  intro d
  induction d with
  | zero =>
    intro n xs hn hl hx
    refine ev_step ?_
    simp only [laws_markByteS.l0]
    refine ev_neg (by omega) (ev_some ?_)
    have e : xs = mk8 L a := by
      apply List.ext_getElem
      · rw [mk8_length, hl]
      · intro i g1 g2
        have := hx i (by omega)
        rw [rd_nat g1] at this
        rw [this, ← rd_nat g2, mk8_get (by omega)]
    rw [e]
    obtain rfl : n = L := by omega
    rfl
  | succ d ih =>
    intro n xs hn hl hx
    refine ev_step ?_
    simp only [laws_markByteS.l0]
    refine ev_pos (by omega) (ev_pos (by omega) ?_)
    rw [w64s (by omega), w64 (by omega) (by omega), show a + (n : Int) + 1 = a + ((n + 1 : Nat) : Int) by omega]
    refine ih (n + 1) _ (by omega) (by simpa using hl) ?_
    intro i hi
    rw [rd_nat (by simp; omega), List.getElem_set]
    split
    · rename_i e
      have e' : n = i := e
      rw [e']
    · rename_i e
      have := hx i (by omega)
      rw [rd_nat (by omega)] at this
      exact this
theorem laws_markByteS.ev (l : List Int) (h : okB l) (a : Int) (h0 : 0 ≤ a) (h1 : a ≤ 4611686018427387904) : ∃ n ys, Ev (fun k => laws_markByteS.f k l a) (n, ys) ∧ MkB ys a n ∧ a ≤ n ∧ n ≤ a + 1048576 := by
  have hl : l.length ≤ 1048576 := h
  refine ⟨a + l.length, mk8 l.length a, ?_, ⟨by unfold okB; rw [mk8_length]; exact hl, h0, by rw [mk8_length], by rw [mk8_length]⟩, by omega, by omega⟩
  unfold laws_markByteS.f
  have := laws_markByteS.ev0 l.length hl a h0 h1 l.length 0 l (by omega) rfl (by intro i hi; omega)
  simpa using this

theorem laws_heldByteS.ev0 (L : Nat) (hL : L ≤ 1048576) (a : Int) (h0 : 0 ≤ a) (h1 : a ≤ 4611686018427387904) : ∀ (d n : Nat), n + d = L → Ev (fun k => laws_heldByteS.l0 k (mk8 L a) (a + n) (n : Int)) (a + L) := by
  intro d
  induction d with
  | zero =>
    intro n hn
    refine ev_step ?_
    simp only [laws_heldByteS.l0, mk8_length]
    refine ev_neg (by omega) (ev_some ?_)
    omega
  | succ d ih =>
    intro n hn
    refine ev_step ?_
    simp only [laws_heldByteS.l0, mk8_length]
    refine ev_pos (by omega) (ev_pos (by omega) ?_)
    rw [mk8_get (by omega)]
    refine ev_pos rfl ?_
    rw [w64s (by omega), w64 (by omega) (by omega), show a + (n : Int) + 1 = a + ((n + 1 : Nat) : Int) by omega]
    exact ih (n + 1) (by omega)
theorem laws_heldByteS.ev (ys : List Int) (a n : Int) (mk : MkB ys a n) (h : n ≤ 4611686018427387904) : Ev (fun k => laws_heldByteS.f k ys a) n := by
  obtain ⟨hl, h0, hn, e⟩ := mk
  have hl' : ys.length ≤ 1048576 := hl
  unfold laws_heldByteS.f
  have := laws_heldByteS.ev0 ys.length hl' a h0 (by omega) ys.length 0 (by omega)
  rw [← e, ← hn] at this
  simpa using this

theorem spec_l01In.eq (a b c : Int) : spec_l01In.f a b c = some (decide (b ≤ a ∧ a ≤ c)) := by
  unfold spec_l01In.f
  split <;> simp_all <;> omega

theorem spec_l01Num.eq (n : Int) : spec_l01Num.f n = some (isNum n) := by
  unfold spec_l01Num.f isNum
  rw [spec_l01In.eq]
  rfl

theorem spec_l01Copy.eq (l : List Int) (h : l.length ≤ 1073741824) : spec_l01Copy.f l = some l := by
  unfold spec_l01Copy.f
  simp only [Option.bind_some, List.nil_append, List.length_nil]
  rw [if_pos (by omega)]

theorem spec_PutVar.ev0 : ∀ (m : Nat) (n : Int) (acc : List Int), 0 ≤ n → n < 128 ^ (m + 1) → n ≤ 1152921504606846975 → acc.length + m ≤ 1073741840 → Ev (fun k => spec_PutVar.l0 k n acc) (acc ++ vint m n, true) := by
  intro m
  induction m with
  | zero =>
    intro n acc h0 h1 h2 hl
    simp at h1
    refine ev_step ?_
    simp only [spec_PutVar.l0]
    refine ev_neg (by omega) (ev_pos (by omega) (ev_some ?_))
    rw [Int.emod_eq_of_lt h0 (by omega)]
    rfl
  | succ m ih =>
    intro n acc h0 h1 h2 hl
    refine ev_step ?_
    simp only [spec_PutVar.l0]
    unfold vint
    by_cases c : n < 128
    · rw [if_pos c]
      refine ev_neg (by omega) (ev_pos (by omega) (ev_some ?_))
      rw [Int.emod_eq_of_lt h0 (by omega)]
    · rw [if_neg c, Int.tdiv_eq_ediv_of_nonneg h0, Int.tmod_eq_emod_of_nonneg h0, w64 (n := n / 128) (by omega) (by omega), w64 (by omega) (by omega)]
      refine ev_pos (by omega) (ev_pos (by omega) (ev_to (ih (n / 128) _ (by omega) ?_ (by omega) (by simp; omega)) ?_))
      · have e : (128 : Int) ^ (m + 1 + 1) = 128 ^ (m + 1) * 128 := Int.pow_succ 128 (m + 1)
        rw [e] at h1
        generalize (128 : Int) ^ (m + 1) = q at *
        omega
      · rw [List.append_assoc, List.singleton_append]
        congr 3
        omega
theorem spec_PutVar.ev (b : List Int) (n : Int) (hb : b.length ≤ 1073741824) : Ev (fun k => spec_PutVar.f k b n) (putVar b n) := by
  unfold spec_PutVar.f putVar
  simp only [spec_l01Num.eq, Option.bind_some, spec_l01Copy.eq b hb]
  refine ev_ite (fun c => ?_) (fun c => ev_some (by rw [if_neg c]))
  obtain ⟨h0, h1⟩ := num_pow c
  exact ev_to (spec_PutVar.ev0 8 n b h0 h1 (isNum_iff.1 c).2 (by omega)) (by rw [if_pos c])

theorem spec_l11Num.ev (b : List Int) (n : Int) (hb : b.length ≤ 1073741824) : Ev (fun k => spec_l11Num.f k b n) (putVar b n).1 := by
  unfold spec_l11Num.f
  exact Ev.bind (spec_PutVar.ev b n hb) (ev_some rfl)

theorem spec_l07Hash.eq (l : List Int) : spec_l07Hash.f l = some ((l.length : Int) == 32) := rfl

theorem spec_VoteBytes.ev (a b : Int) (h : List Int) (hh : niceB h) : Ev (fun k => spec_VoteBytes.f k a b h) (voteBytes a b h) := by
  unfold spec_VoteBytes.f voteBytes
  simp only [spec_l01Num.eq, spec_l07Hash.eq, Option.bind_some]
  have hs := hh.1
  refine ev_ite (fun c => ?_) (fun c => ?_)
  · refine ev_ite (fun d => ?_) (fun d => ?_)
    · refine ev_step ?_
      simp only [spec_VoteBytes.j0]
      refine ev_ite (fun e => ev_some ?_) (fun e => ?_)
      · have e' : ¬ h.length = 32 := by intro q; rw [q] at e; exact absurd e (by decide)
        rw [if_neg (fun q => e' q.2.2)]
      · have e' : h.length = 32 := by
          have q : ((h.length : Int) == 32) = true := by cases x : ((h.length : Int) == 32) <;> simp_all
          have := beq_iff_eq.mp q
          omega
        rw [if_pos ⟨c, d, e'⟩]
        have h1 := vint_length 8 a
        have h2 := vint_length 8 b
        refine Ev.bind (spec_l11Num.ev _ a (by simp)) ?_
        refine Ev.bind (spec_l11Num.ev _ b (by simp [putVar, c]; omega)) ?_
        have e1 : (putVar (putVar [86] a).1 b).1 = [86] ++ vint 8 a ++ vint 8 b := by simp [putVar, c, d]
        rw [e1]
        refine ev_pos (by simp only [List.length_append, List.length_cons, List.length_nil]; omega) (ev_some ?_)
        simp
    · refine ev_step ?_
      simp only [spec_VoteBytes.j0]
      exact ev_pos trivial (ev_some (by rw [if_neg (fun q => d q.2.1)]))
  · refine ev_step ?_
    simp only [spec_VoteBytes.j0]
    exact ev_pos trivial (ev_some (by rw [if_neg (fun q => c q.1)]))
theorem spec_VoteBytes.nice (a b : Int) (h : List Int) (hh : niceB h) : niceB (voteBytes a b h) := voteBytes_nice a b hh

theorem impl_within.eq (a b c : Int) : impl_within.f a b c = some (decide (b ≤ a ∧ a ≤ c)) := by
  unfold impl_within.f
  split <;> simp [*]

theorem impl_isNum.eq (n : Int) : impl_isNum.f n = some (isNum n) := by
  unfold impl_isNum.f isNum
  rw [impl_within.eq]
  rfl

theorem impl_copyBytes.eq (l : List Int) (h : l.length ≤ 1073741824) : impl_copyBytes.f l = some l := by
  unfold impl_copyBytes.f
  simp only [Option.bind_some, List.nil_append, List.length_nil]
  rw [if_pos (by omega)]

theorem impl_PutVar.ev0 : ∀ (m : Nat) (n : Int) (acc : List Int), 0 ≤ n → n < 128 ^ (m + 1) → n ≤ 1152921504606846975 → acc.length + m ≤ 1073741840 → Ev (fun k => impl_PutVar.l0 k n acc) (acc ++ vint m n, true) := by
  intro m
  induction m with
  | zero =>
    intro n acc h0 h1 h2 hl
    simp at h1
    refine ev_step ?_
    simp only [impl_PutVar.l0]
    refine ev_neg (by omega) (ev_pos (by omega) (ev_some ?_))
    rw [Int.emod_eq_of_lt h0 (by omega)]
    rfl
  | succ m ih =>
    intro n acc h0 h1 h2 hl
    refine ev_step ?_
    simp only [impl_PutVar.l0]
    unfold vint
    by_cases c : n < 128
    · rw [if_pos c]
      refine ev_neg (by omega) (ev_pos (by omega) (ev_some ?_))
      rw [Int.emod_eq_of_lt h0 (by omega)]
    · rw [if_neg c, Int.tdiv_eq_ediv_of_nonneg h0, Int.tmod_eq_emod_of_nonneg h0, w64 (n := n / 128) (by omega) (by omega), w64 (by omega) (by omega)]
      refine ev_pos (by omega) (ev_pos (by omega) (ev_to (ih (n / 128) _ (by omega) ?_ (by omega) (by simp; omega)) ?_))
      · have e : (128 : Int) ^ (m + 1 + 1) = 128 ^ (m + 1) * 128 := Int.pow_succ 128 (m + 1)
        rw [e] at h1
        generalize (128 : Int) ^ (m + 1) = q at *
        omega
      · rw [List.append_assoc, List.singleton_append]
        congr 3
        omega
theorem impl_PutVar.ev (b : List Int) (n : Int) (hb : b.length ≤ 1073741824) : Ev (fun k => impl_PutVar.f k b n) (putVar b n) := by
  unfold impl_PutVar.f putVar
  simp only [impl_isNum.eq, Option.bind_some, impl_copyBytes.eq b hb]
  refine ev_ite (fun c => ?_) (fun c => ev_some (by rw [if_neg c]))
  obtain ⟨h0, h1⟩ := num_pow c
  exact ev_to (impl_PutVar.ev0 8 n b h0 h1 (isNum_iff.1 c).2 (by omega)) (by rw [if_pos c])

theorem impl_numbers.ev0 (ns : List Int) (hn : ns.length ≤ 4) : ∀ (d i : Nat) (acc : List Int), i + d = ns.length → acc.length ≤ 100 + 10 * i → Ev (fun k => impl_numbers.l0 k acc ns (ns.length : Int) (i : Int)) (numbersV acc (ns.drop i)) := by
  intro d
  induction d with
  | zero =>
    intro i acc hi ha
    refine ev_step ?_
    simp only [impl_numbers.l0]
    refine ev_neg (by omega) (ev_some ?_)
    rw [List.drop_of_length_le (by omega)]
    rfl
  | succ d ih =>
    intro i acc hi ha
    have hlt : i < ns.length := by omega
    refine ev_step ?_
    simp only [impl_numbers.l0]
    refine ev_pos (by omega) (ev_pos (by omega) (ev_pos (by omega) ?_))
    rw [rd_nat hlt, List.drop_eq_getElem_cons hlt]
    refine Ev.bind (impl_PutVar.ev acc _ (by omega)) ?_
    rw [w64s (by omega), numbersV]
    have := vint_length 8 (ns[i])
    by_cases c : isNum (ns[i]) = true
    · have e : putVar acc (ns[i]) = (acc ++ vint 8 (ns[i]), true) := by rw [putVar, if_pos c]
      rw [e, if_pos c]
      exact ev_pos rfl (ih (i + 1) _ (by omega) (by simp; omega))
    · have e : putVar acc (ns[i]) = ([], false) := by rw [putVar, if_neg c]
      rw [e, if_neg c]
      exact ev_neg (by simp) (ev_some rfl)
theorem impl_numbers.ev (c : Int) (ns : List Int) (hn : ns.length ≤ 4) : Ev (fun k => impl_numbers.f k c ns) (numbersV [c] ns) := by
  unfold impl_numbers.f
  exact impl_numbers.ev0 ns hn ns.length 0 [c] (by omega) (by simp)

theorem impl_areHashes.ev0 (l : List (List Int)) (hl : l.length ≤ 9) : ∀ (d n : Nat), n + d = l.length → Ev (fun k => impl_areHashes.l0 k l (l.length : Int) (n : Int)) ((l.drop n).all (fun h => decide (h.length = 32)))
  | 0, n, hn => by
    refine ev_step ?_
    simp only [impl_areHashes.l0]
    refine ev_neg (by omega) (ev_some ?_)
    rw [List.drop_of_length_le (by omega)]
    rfl
  | d + 1, n, hn => by
    have hlt : n < l.length := by omega
    have e : rd_L2 l (n : Int) = l[n] := getD_nat _ hlt
    refine ev_step ?_
    simp only [impl_areHashes.l0]
    refine ev_pos (by omega) (ev_pos (by omega) (ev_pos (by omega) ?_))
    rw [e, List.drop_eq_getElem_cons hlt, List.all_cons]
    refine ev_ite (fun c => ?_) (fun c => ev_some ?_)
    · rw [w64s (by omega)]
      refine ev_to (impl_areHashes.ev0 l hl d (n + 1) (by omega)) ?_
      have c' : (l[n]).length = 32 := by omega
      rw [decide_eq_true c', Bool.true_and]
    · have c' : ¬ (l[n]).length = 32 := by omega
      rw [decide_eq_false c', Bool.false_and]
theorem impl_areHashes.ev (l : List (List Int)) (hl : l.length ≤ 9) : Ev (fun k => impl_areHashes.f k l) (l.all (fun h => decide (h.length = 32))) := by
  unfold impl_areHashes.f
  exact impl_areHashes.ev0 l hl l.length 0 (by omega)

theorem impl_VoteBytes.ev (a b : Int) (h : List Int) (hh : niceB h) : Ev (fun k => impl_VoteBytes.f k a b h) (voteBytes a b h) := by
  unfold impl_VoteBytes.f voteBytes
  have hs := hh.1
  have h1 := vint_length 8 a
  have h2 := vint_length 8 b
  refine Ev.bind (impl_numbers.ev 86 [a, b] (by simp)) ?_
  by_cases c : isNum a = true
  · by_cases d : isNum b = true
    · have e : numbersV [86] [a, b] = [86] ++ vint 8 a ++ vint 8 b := by simp [numbersV, c, d]
      rw [e]
      refine ev_neg (by simp only [List.length_append, List.length_cons, List.length_nil]; omega) ?_
      refine Ev.bind (impl_areHashes.ev [h] (by simp)) ?_
      refine ev_ite (fun q => ?_) (fun q => ev_some ?_)
      · have q' : h.length = 32 := by simpa using q
        refine ev_to ?_ (if_pos ⟨c, d, q'⟩).symm
        refine ev_pos (by simp only [List.length_append, List.length_cons, List.length_nil]; omega) (ev_some ?_)
        simp
      · have q' : ¬ h.length = 32 := by simpa using q
        rw [if_neg (fun x => q' x.2.2)]
    · have e : numbersV [86] [a, b] = [] := by simp [numbersV, c, d]
      rw [e]
      exact ev_pos rfl (ev_some (by rw [if_neg (fun x => d x.2.1)]))
  · have e : numbersV [86] [a, b] = [] := by simp [numbersV, c]
    rw [e]
    exact ev_pos rfl (ev_some (by rw [if_neg (fun x => c x.1)]))
theorem impl_VoteBytes.nice (a b : Int) (h : List Int) (hh : niceB h) : niceB (voteBytes a b h) := voteBytes_nice a b hh

end Go.Proofs.Ytdkmoaokclnopaa.PFnExactVoteBytes
