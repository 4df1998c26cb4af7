/- What the printed functions of FnExactVdName come to, in plain terms. No condition beside those that each lemma names. -/
import Derived.Test.YtdkmoaokclnopaaFFnExactVdNamex0
import Derived.Test.YtdkmoaokclnopaaFFnExactVdNamex1
import Derived.Test.YtdkmoaokclnopaaBits
import Derived.Test.YtdkmoaokclnopaaEv
import Derived.Test.YtdkmoaokclnopaaRd
namespace Go.Proofs.Ytdkmoaokclnopaa.PFnExactVdName
open Go.RowKit Go.Proofs.YtdkmoaokclnopaaW.PrintWords Go.Proofs.YtdkmoaokclnopaaW.PrintLast Go.Proofs.YtdkmoaokclnopaaR
set_option linter.unusedVariables false
set_option linter.unusedSimpArgs false

theorem spec_l01In.eq (a b c : Int) : spec_l01In.f a b c = some (decide (b ≤ a ∧ a ≤ c)) := by
  unfold spec_l01In.f
  split <;> simp_all <;> omega

theorem spec_VdName.ev (a : Int) : Ev (fun k => spec_VdName.f a) (nameAt a vdNames) := by
  refine ev_eq ?_
  have e : (vdNames.length : Int) = 10 := rfl
  unfold spec_VdName.f nameAt
  simp only [spec_l01In.eq, Option.bind_some, decide_eq_true_eq]
  by_cases h : 0 ≤ a ∧ a ≤ 9
  · rw [if_pos h, if_pos h.1]
    refine (if_pos (show a < (vdNames.length : Int) by omega)).trans ?_
    rw [if_pos (by omega)]
    rfl
  · rw [if_neg h, if_neg (by omega)]

theorem impl_within.eq (a b c : Int) : impl_within.f a b c = some (decide (b ≤ a ∧ a ≤ c)) := by
  unfold impl_within.f
  split <;> simp [*]

theorem impl_nameAt.eq (a : Int) (l : List ByteArray) (hl : l.length ≤ 1000) : impl_nameAt.f a l = some (nameAt a l) := by
  unfold impl_nameAt.f nameAt
  rw [w64 (by omega) (by omega)]
  simp only [impl_within.eq, Option.bind_some, decide_eq_true_eq]
  by_cases h : 0 ≤ a ∧ a < l.length
  · rw [if_pos (by omega), if_pos h.1, if_pos h.2, if_pos h]
  · rw [if_neg (by omega), if_neg h]

theorem impl_VdName.ev (a : Int) : Ev (fun k => impl_VdName.f a) (nameAt a vdNames) := by
  refine ev_eq ?_
  have e : impl_nameAt.f a vdNames = some (nameAt a vdNames) := impl_nameAt.eq a vdNames (by decide)
  unfold impl_VdName.f
  refine (congrArg (fun o => Option.bind o _) e).trans ?_
  rfl

end Go.Proofs.Ytdkmoaokclnopaa.PFnExactVdName
