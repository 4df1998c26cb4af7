/- The law FnQuorum over numbers and lists alone. No condition beside what each argument's kind says. -/
import Derived.Test.YtedebnlmjoljoaaQFnQuorum
namespace Go.Proofs.Ytedebnlmjoljoaa.PFnQuorum
open Go.RowKit Go.Proofs.YtedebnlmjoljoaaW.PrintWords Go.Proofs.YtedebnlmjoljoaaW.PrintLast Go.Proofs.YtedebnlmjoljoaaW.PrintMore Go.Proofs.YtedebnlmjoljoaaR
set_option linter.unusedVariables false
theorem weight_of {l : List S44} (h : tableOk l = true) {b : List Int} (hb : bitsOk b (l.length : Int) = true) : weightOf l b = wsum b 0 l := if_pos ⟨h, hb⟩
theorem total_of {l : List S44} (h : tableOk l = true) : totalOf l = total l := if_pos h
theorem FnQuorum (l0 : List Int) (h0 : (l0.length ≤ 9223372036854775807 ∧ ∀ x ∈ l0, (Lit.int .u8 x).wf = true)) : ∃ k, laws_FnQuorum.f k l0 = some true := by
  refine Ev.rounds ?_
  unfold laws_FnQuorum.f
  refine ev_ite (fun _ => ev_some rfl) (fun c0 => ?_)
  have hl : l0.length ≤ 1048576 := by omega
  obtain ⟨n, tx, txs, hd, rows, e0, hn, _, _, _, hr, dr⟩ := spec_MakeTable.ex l0 hl
  refine Ev.bind e0 ?_
  dsimp only
  obtain ⟨a, ea, na, oa⟩ := spec_MakeBits.ex l0 hl n hn.1 (by omega) 1 (by omega) (by omega)
  obtain ⟨b, eb, nb, ob⟩ := spec_MakeBits.ex l0 hl n hn.1 (by omega) 2 (by omega) (by omega)
  obtain ⟨c, ec, nc, oc⟩ := spec_MakeBits.ex l0 hl n hn.1 (by omega) 3 (by omega) (by omega)
  obtain ⟨f, ef, nf, of, bf⟩ := spec_MakeFull.ex n hn.1 (by omega)
  have T := drawn_ok dr (by omega) (by omega)
  have N := drawn_nice dr (by omega)
  subst hr
  have hw : ∀ r ∈ rows, 1 ≤ r.f0 ∧ r.f0 ≤ 1099511627776 := fun r hr => (dr r hr).1
  have tb := total_bd hw
  have hab := bitsOk_size oa ob
  have no : niceB (bitsBoth .or a b) := bitsBoth_nice _ na
  have nn : niceB (bitsBoth .and a b) := bitsBoth_nice _ na
  have oo : bitsOk (bitsBoth .or a b) (rows.length : Int) = true := bitsBoth_ok oa ob na nb rfl
  have on : bitsOk (bitsBoth .and a b) (rows.length : Int) = true := bitsBoth_ok oa ob na nb rfl
  have W1 : wsum a 0 rows + wsum b 0 rows = wsum (bitsBoth .or a b) 0 rows + wsum (bitsBoth .and a b) 0 rows := wsum_both (fun j => bitsBoth_bit hab na nb rfl j) (fun j => bitsBoth_bit hab na nb rfl j) rows 0
  have Wf : wsum f 0 rows = total rows := wsum_full rows 0 (fun j hj => bf j (by omega))
  have wa := weight_of T oa
  have wb := weight_of T ob
  have wc := weight_of T oc
  have wf := weight_of T of
  have wo := weight_of T oo
  have wn := weight_of T on
  have tt := total_of T
  have ba := wsum_bd hw (b := a) 0
  have bb := wsum_bd hw (b := b) 0
  have bc := wsum_bd hw (b := c) 0
  have bo := wsum_bd hw (b := bitsBoth .or a b) 0
  have bn := wsum_bd hw (b := bitsBoth .and a b) 0
  have t1 : 0 < total rows := by
    match rows, hn.1, hw with
    | r :: t, _, hw =>
      have h1 := hw r (by simp)
      have h2 := (total_bd (l := t) (fun x hx => hw x (by simp [hx]))).1
      simp only [total]
      omega
  refine Ev.bind ea (Ev.bind eb (Ev.bind ec ?_))
  refine Ev.bind (impl_WeightOf.ev rows a N na) (Ev.bind (impl_WeightOf.ev rows b N nb) (Ev.bind (impl_BitsOr.ev a b na nb) (Ev.bind (impl_WeightOf.ev rows _ N no) (Ev.bind (impl_Overlap.ev rows a b N na nb) ?_))))
  refine ev_pos (by rw [wa, wb, wo, wn, W1]) ?_
  have qf : isQuorum rows f = true := by
    unfold isQuorum
    rw [T, wf, tt, Wf, Bool.true_and]
    exact decide_eq_true (by omega)
  refine Ev.bind ef (Ev.bind (impl_IsQuorum.ev rows f N nf) (ev_pos qf (Ev.bind ef (Ev.bind (impl_WeightOf.ev rows f N nf) (Ev.bind (impl_TotalOf.ev rows N) (ev_step ?_))))))
  simp only [laws_FnQuorum.j0]
  refine ev_neg (by rw [wf, tt, Wf]; simp) ?_
  refine Ev.bind (impl_IsQuorum.ev rows a N na) (ev_ite (fun qa => Ev.bind (impl_IsQuorum.ev rows b N nb) (ev_step ?_)) (fun qa => ev_step ?_))
  · simp only [laws_FnQuorum.j1]
    refine ev_ite (fun _ => ev_some rfl) (fun qb => ?_)
    have qb : isQuorum rows b = true := by simpa using qb
    unfold isQuorum at qa qb
    rw [T, Bool.true_and, decide_eq_true_eq, tt] at qa qb
    rw [wa] at qa
    rw [wb] at qb
    refine Ev.bind (impl_Overlap.ev rows a b N na nb) (Ev.bind (impl_TotalOf.ev rows N) (ev_pos ?_ ?_))
    · rw [wn, tt, w64 (by omega) (by omega)]
      omega
    refine Ev.bind (impl_IsFew.ev rows c N nc) (ev_ite (fun fc => ?_) (fun _ => ev_some rfl))
    refine Ev.bind (impl_BitsAnd.ev a b na nb) (Ev.bind (impl_BitsIn.ev _ c nn nc) (ev_some ?_))
    cases hin : bitsIn (bitsBoth .and a b) c with
    | false => rfl
    | true =>
      have m := wsum_mono (bitsIn_bit nn nc hin) hw 0
      unfold isFew at fc
      rw [T, oc, Bool.true_and, Bool.true_and, decide_eq_true_eq, tt, wc] at fc
      exfalso
      omega
  · simp only [laws_FnQuorum.j1]
    exact ev_pos trivial (ev_some rfl)
end Go.Proofs.Ytedebnlmjoljoaa.PFnQuorum
