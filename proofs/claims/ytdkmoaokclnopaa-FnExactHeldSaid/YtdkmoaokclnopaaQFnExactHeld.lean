/- What the printed functions of FnExactHeld come to, in plain terms. No condition beside those that each lemma names. -/
import Derived.Test.YtdkmoaokclnopaaFFnExactHeldx0
import Derived.Test.YtdkmoaokclnopaaFFnExactHeldx1
import Derived.Test.YtdkmoaokclnopaaBits
import Derived.Test.YtdkmoaokclnopaaEv
import Derived.Test.YtdkmoaokclnopaaRd
namespace Go.Proofs.Ytdkmoaokclnopaa.PFnExactHeld
open Go.RowKit Go.Proofs.YtdkmoaokclnopaaW.PrintWords Go.Proofs.YtdkmoaokclnopaaW.PrintLast Go.Proofs.YtdkmoaokclnopaaR
set_option linter.unusedVariables false
set_option linter.unusedSimpArgs false

theorem laws_szByteS.ev (l : List Int) (h : l.length ≤ 9223372036854775807) (a : Int) (h0 : 0 ≤ a) (h1 : a ≤ 1048576) : ∃ r, Ev (fun _ => laws_szByteS.f l a) r ∧ SzR (okB l) a r := by
  unfold laws_szByteS.f
  rw [w64 (by omega) (by omega)]
  by_cases c : (l.length : Int) ≤ a
  · exact ⟨a - l.length, ev_neg (by omega) (ev_some rfl), Or.inr ⟨by omega, by omega, by unfold okB; omega⟩⟩
  · exact ⟨-1, ev_pos (by omega) (ev_some rfl), Or.inl rfl⟩

theorem laws_szPush.ev (x0 : Int) (x1 : List Int) (h : (x1.length ≤ 9223372036854775807)) (a : Int) (h0 : 0 ≤ a) (h1 : a ≤ 1048576) : ∃ r, Ev (fun k => laws_szPush.f x0 x1 a) r ∧ SzR (okB x1) a r := by
  unfold laws_szPush.f
  have g0 := h
  obtain ⟨r0, e0, s0⟩ := laws_szByteS.ev x1 g0 a h0 h1
  rcases s0 with rfl | ⟨p0, q0, o0⟩
  · exact ⟨-1, Ev.bind e0 (ev_pos (by omega) (ev_some rfl)), Or.inl rfl⟩
  exact ⟨r0, Ev.bind e0 (ev_neg (by omega) (ev_some rfl)), Or.inr ⟨p0, by omega, o0⟩⟩

theorem spec_Held.ev (a : Int) (l : List Int) : Ev (fun k => spec_Held.f a l) (l.length : Int) := ev_some rfl

theorem laws_toByteS.ev (l : List Int) (h : okB l) : Ev (fun k => laws_toByteS.f k l) l := by
  have hl : l.length ≤ 1048576 := h
  unfold laws_toByteS.f
  refine ev_pos (by omega) (ev_pos (by simp only [toNat_nat]; omega) ?_)
  refine ev_to (ev_fill l (fun i => rd l i) (fun k ys i => laws_toByteS.l0 k l ys i) ?_ ?_ l.length 0 _ (by omega) (by simp)) ?_
  · intro n ys r hn hl hr
    refine ev_step ?_
    simp only [laws_toByteS.l0]
    refine ev_pos (by omega) (ev_pos (by omega) (ev_pos (by omega) ?_))
    rw [w64s (by omega)]
    exact hr
  · intro ys hl
    refine ev_step ?_
    simp only [laws_toByteS.l0]
    exact ev_neg (by omega) (ev_some rfl)
  · have := map_range_get l 0 id
    simpa [rd] using this

theorem laws_toPush.ev (x0 : Int) (x1 : List Int) (h : okB x1) : Ev (fun k => laws_toPush.f k x0 x1) (x0, x1) := by
  unfold laws_toPush.f
  have g0 := h
  refine Ev.bind (laws_toByteS.ev x1 g0) ?_
  exact ev_some rfl

theorem impl_Held.ev (a : Int) (l : List Int) : Ev (fun k => impl_Held.f a l) (l.length : Int) := ev_some rfl

theorem laws_eqByteS.ev (l : List Int) (h : okB l) : Ev (fun k => laws_eqByteS.f k l l) true := by
  have hl : l.length ≤ 1048576 := h
  unfold laws_eqByteS.f
  refine ev_pos rfl ?_
  refine ev_all l.length (fun k i => laws_eqByteS.l0 k l l i) true ?_ ?_ l.length 0 (by omega)
  · intro n hn hr
    refine ev_step ?_
    simp only [laws_eqByteS.l0]
    refine ev_pos (by omega) (ev_pos (by omega) (ev_pos (by omega) (ev_pos trivial ?_)))
    rw [w64s (by omega)]
    exact hr
  · refine ev_step ?_
    simp only [laws_eqByteS.l0]
    exact ev_neg (by omega) (ev_some rfl)

theorem laws_eqPush.ev (x0 : Int) (x1 : List Int) (h : okB x1) : Ev (fun k => laws_eqPush.f k x0 x1 x0 x1) true := by
  unfold laws_eqPush.f
  have g0 := h
  refine ev_pos rfl ?_
  refine Ev.bind (laws_eqByteS.ev x1 g0) (ev_pos rfl ?_)
  exact ev_some rfl

end Go.Proofs.Ytdkmoaokclnopaa.PFnExactHeld
