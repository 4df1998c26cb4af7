/- The law FnLeast over numbers and lists alone. No condition beside what each argument's kind says. -/
import Derived.Test.YtnkkdiiheannaaaQFnLeast
namespace Go.Proofs.Ytnkkdiiheannaaa.PFnLeast
open Go.RowKit Go.Proofs.YtnkkdiiheannaaaW.PrintWords Go.Proofs.YtnkkdiiheannaaaW.PrintLast Go.Proofs.YtnkkdiiheannaaaW.PrintMore Go.Proofs.YtnkkdiiheannaaaR
set_option linter.unusedVariables false
theorem law_loop (l0 : List Int) (hl : l0.length ≤ 1048576) (l : List S74) (N : nL74 l) (T : tableOk l = true) (tx txs fr hd : Int) (s : Nat) (ext : List Nat) (Q : LeastQ l s ext) (hs : 1 ≤ s) : ∀ (d i : Nat), i + d = ext.length → Ev (fun k => laws_FnLeast.l0 k l0 (bitsOf l.length ext) (castL ext) (ext.length : Int) (i : Int) (l.length : Int) tx txs fr hd l) true := by
  obtain ⟨_, h1, h2⟩ := tableOk_iff.1 T
  have hx : ∀ i ∈ ext, i < l.length := fun i hi => Q.1.2.2 i (by simpa using hi)
  have hp : ext.Pairwise (· < ·) := by simpa using Q.1.2.1
  have he := Q.1.1
  obtain ⟨nb, _, ob, bb⟩ := bitsOf_spec h1 h2 hx
  have hlen : ext.length ≤ 16 := by
    have := bitsFrom_length (bitsOf l.length ext) (8 * (bitsOf l.length ext).length) 0
    rw [bitsFrom_of h1 h2 hx hp] at this
    have := bitsOk_len ob
    omega
  intro d
  induction d with
  | zero =>
    intro i hi
    refine ev_step ?_
    simp only [laws_FnLeast.l0]
    refine ev_neg (by omega) ?_
    obtain ⟨a, ea, na, oa⟩ := spec_MakeBits.ex l0 hl l.length h1 h2 1 (by omega) (by omega)
    refine Ev.bind ea (Ev.bind (impl_IsQuorum.ev l a N na) (ev_ite (fun qa => ?_) (fun _ => ev_some rfl)))
    refine Ev.bind (impl_BitsCount.ev a na) (Ev.bind (impl_BitsCount.ev _ nb) (ev_some ?_))
    have ca : bitCount (bitsOf l.length ext) = s := by
      unfold bitCount
      rw [bitsFrom_of h1 h2 hx hp]
      exact he
    refine decide_eq_true ?_
    rw [ca]
    -- the drawn one's own list
    have ha : ∀ x ∈ bitsFrom a 0 (8 * a.length), x < l.length := fun x hx => bitsOk_lt oa (((bitsFrom_mem a _ _ x).1 hx).2)
    obtain ⟨_, _, oo, bo⟩ := bitsOf_spec h1 h2 ha
    have qq := quorum_bits T oa oo (fun j => by
      rw [bo]
      cases c : bitAt a j with
      | true =>
        refine (decide_eq_true ((bitsFrom_mem a _ _ j).2 ⟨⟨by omega, ?_⟩, c⟩)).symm
        by_cases q : j < 0 + 8 * a.length
        · exact q
        · rw [bitAt_out (by omega)] at c; cases c
      | false => exact (decide_eq_false (fun m => by rw [((bitsFrom_mem a _ _ j).1 m).2] at c; cases c)).symm)
    rw [qa] at qq
    by_cases lt : bitCount a < s
    · exfalso
      by_cases z : 1 ≤ bitCount a
      · have := Q.2.2 (bitCount a) (bitsFrom a 0 (8 * a.length)) z lt ⟨rfl, by simpa using bitsFrom_sorted a _ _, by simpa using ha⟩
        rw [← qq] at this
        cases this
      · have e : bitsFrom a 0 (8 * a.length) = [] := List.eq_nil_of_length_eq_zero (by unfold bitCount at z; omega)
        rw [e, no_quorum T] at qq
        cases qq
    · omega
  | succ d ih =>
    intro i hi
    have hlt : i < ext.length := by omega
    have hm : ext[i] ∈ ext := List.getElem_mem hlt
    have hx1 := hx _ hm
    refine ev_step ?_
    simp only [laws_FnLeast.l0]
    refine ev_pos (by omega) (ev_pos (by omega) (ev_pos (by rw [castL_len]; omega) ?_))
    rw [castL_rd hlt, w64s (by omega)]
    refine Ev.bind (impl_BitsSet.off _ l.length ext[i] nb ob hx1) (ev_pos rfl (Ev.bind (impl_IsQuorum.ev l _ N (bitSet_nice nb _)) (ev_neg ?_ (ih (i + 1) (by omega)))))
    have hf : ∀ x ∈ ext.filter (fun x => decide (x ≠ ext[i])), x < l.length := fun x hx' => hx x (List.mem_filter.1 hx').1
    obtain ⟨_, _, oo, bo⟩ := bitsOf_spec h1 h2 hf
    have hi8 : ext[i] < 8 * (bitsOf l.length ext).length := by
      by_cases q : ext[i] < 8 * (bitsOf l.length ext).length
      · exact q
      · have := bb ext[i]
        rw [bitAt_out (by omega), decide_eq_true hm] at this
        cases this
    have bs : ∀ j, bitAt (bitSet .andNot (bitsOf l.length ext) ext[i]) j = decide (j ∈ ext.filter (fun x => decide (x ≠ ext[i]))) := fun j => by
      rw [bitSet_bit nb hi8 (by intro p; simp [bitOp]), bb]
      by_cases c : j = ext[i]
      · rw [if_pos c, decide_eq_false (show ¬ j ∈ ext.filter (fun x => decide (x ≠ ext[i])) from fun m => by have := (List.mem_filter.1 m).2; simp [c] at this)]
        simp [bitOp]
      · rw [if_neg c]
        by_cases q : j ∈ ext
        · rw [decide_eq_true q, decide_eq_true (List.mem_filter.2 ⟨q, by simpa using c⟩)]
        · rw [decide_eq_false q, decide_eq_false (show ¬ j ∈ ext.filter (fun x => decide (x ≠ ext[i])) from fun m => q (List.mem_filter.1 m).1)]
    have os : bitsOk (bitSet .andNot (bitsOf l.length ext) ext[i]) (l.length : Int) = true := bitsOk_of h1 h2 (by rw [bitSet_length]; exact (bitsOk_iff.1 ob).2.1) (fun j hj => by rw [bs] at hj; exact hf j (of_decide_eq_true hj))
    rw [quorum_bits T os oo (fun j => by rw [bs, bo])]
    have fl : (ext.filter (fun x => decide (x ≠ ext[i]))).length < s := by
      rw [← he]
      exact List.length_filter_lt_length_iff_exists.2 ⟨ext[i], hm, by simp⟩
    by_cases z : 1 ≤ (ext.filter (fun x => decide (x ≠ ext[i]))).length
    · rw [Q.2.2 _ _ z fl ⟨rfl, by simpa using hp.filter _, by simpa using hf⟩]
      decide
    · have e : ext.filter (fun x => decide (x ≠ ext[i])) = [] := List.eq_nil_of_length_eq_zero (by omega)
      rw [e, no_quorum T]
      decide
theorem FnLeast (l0 : List Int) (h0 : (l0.length ≤ 9223372036854775807 ∧ ∀ x ∈ l0, (Lit.int .u8 x).wf = true)) : ∃ k, laws_FnLeast.f k l0 = some true := by
  refine Ev.rounds ?_
  unfold laws_FnLeast.f
  refine ev_ite (fun _ => ev_some rfl) (fun c0 => ?_)
  have hl : l0.length ≤ 1048576 := by omega
  obtain ⟨n, tx, txs, hd, rows, e0, hn, _, _, _, hr, dr⟩ := spec_MakeTable.ex l0 hl
  have T := drawn_ok dr (by omega) (by omega)
  have N := drawn_nice dr (by omega)
  subst hr
  obtain ⟨s, ext, eL, Q, hs⟩ := impl_Least.ex rows N T
  obtain ⟨_, h1, h2⟩ := tableOk_iff.1 T
  have hx : ∀ i ∈ ext, i < rows.length := fun i hi => Q.1.2.2 i (by simpa using hi)
  have hp : ext.Pairwise (· < ·) := by simpa using Q.1.2.1
  obtain ⟨nb, _, ob, bb⟩ := bitsOf_spec h1 h2 hx
  have eb : bitsList (bitsOf rows.length ext) = castL ext := by
    unfold bitsList castL
    rw [bitsFrom_of h1 h2 hx hp]
  refine Ev.bind e0 ?_
  dsimp only
  refine Ev.bind eL (Ev.bind (impl_IsQuorum.ev rows _ N nb) (ev_pos Q.2.1 (Ev.bind (impl_BitsList.ev _ nb) ?_)))
  rw [eb, castL_len]
  exact law_loop l0 hl rows N T tx txs 4000 hd s ext Q hs ext.length 0 (by omega)
end Go.Proofs.Ytnkkdiiheannaaa.PFnLeast
