/- What the printed functions of FnExactMostHeld come to, in plain terms. No condition beside those that each lemma names. -/
import Derived.Test.YtdkmoaokclnopaaFFnExactMostHeldx0
import Derived.Test.YtdkmoaokclnopaaFFnExactMostHeldx1
import Derived.Test.YtdkmoaokclnopaaBits
import Derived.Test.YtdkmoaokclnopaaEv
import Derived.Test.YtdkmoaokclnopaaRd
namespace Go.Proofs.Ytdkmoaokclnopaa.PFnExactMostHeld
open Go.RowKit Go.Proofs.YtdkmoaokclnopaaW.PrintWords Go.Proofs.YtdkmoaokclnopaaW.PrintLast Go.Proofs.YtdkmoaokclnopaaR
set_option linter.unusedVariables false
set_option linter.unusedSimpArgs false

theorem spec_l01In.eq (a b c : Int) : spec_l01In.f a b c = some (decide (b ≤ a ∧ a ≤ c)) := by
  unfold spec_l01In.f
  split <;> simp_all <;> omega

theorem spec_l02Signers.eq (a : Int) : spec_l02Signers.f a = some (decide (1 ≤ a ∧ a ≤ 10)) := by
  unfold spec_l02Signers.f
  rw [spec_l01In.eq]
  rfl

theorem spec_LimitsOk.eq (a b c d e : Int) : spec_LimitsOk.f a b c d e = some (limitsOk a b c d e) := by
  unfold spec_LimitsOk.f limitsOk
  simp only [spec_l02Signers.eq, spec_l01In.eq, Option.bind_some, decide_eq_true_eq]
  repeat' split
  all_goals (simp_all; try omega)
theorem spec_LimitsOk.ev (a b c d e : Int) : Ev (fun k => spec_LimitsOk.f a b c d e) (limitsOk a b c d e) := ev_eq (spec_LimitsOk.eq a b c d e)

theorem spec_MostHeld.ev (a b c d e : Int) : Ev (fun k => spec_MostHeld.f a b c d e) (if limitsOk a b c d e = true then wrap64 (d + 7) else 0) := by
  unfold spec_MostHeld.f
  simp only [spec_LimitsOk.eq, Option.bind_some]
  split <;> exact ev_some rfl

theorem laws_toLimits.ev (x0 : Int) (x1 : Int) (x2 : Int) (x3 : Int) (x4 : Int) : Ev (fun k => laws_toLimits.f x0 x1 x2 x3 x4) (x0, x1, x2, x3, x4) := by
  unfold laws_toLimits.f
  exact ev_some rfl

theorem impl_within.eq (a b c : Int) : impl_within.f a b c = some (decide (b ≤ a ∧ a ≤ c)) := by
  unfold impl_within.f
  split <;> simp [*]

theorem impl_LimitsOk.eq (a b c d e : Int) : impl_LimitsOk.f a b c d e = some (limitsOk a b c d e) := by
  unfold impl_LimitsOk.f limitsOk
  simp only [impl_within.eq, Option.bind_some, decide_eq_true_eq]
  repeat' split
  all_goals (simp_all; try omega)
theorem impl_LimitsOk.ev (a b c d e : Int) : Ev (fun k => impl_LimitsOk.f a b c d e) (limitsOk a b c d e) := ev_eq (impl_LimitsOk.eq a b c d e)

theorem impl_MostHeld.ev (a b c d e : Int) : Ev (fun k => impl_MostHeld.f a b c d e) (if limitsOk a b c d e = true then wrap64 (d + 7) else 0) := by
  unfold impl_MostHeld.f
  simp only [impl_LimitsOk.eq, Option.bind_some]
  split <;> exact ev_some rfl

end Go.Proofs.Ytdkmoaokclnopaa.PFnExactMostHeld
