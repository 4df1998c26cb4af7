/- The library's contracts as the machine of values meets them. Condition: the table of powers of ten is laid. -/
import Derived.Test.YthocpcfjfgnkgaaDoorRvD
import Derived.Test.YthocpcfjfgnkgaaDoorShelf
import Derived.Lib.AppendIntMem
import Derived.Lib.AtoiErrMem
namespace Go.Proofs.YthocpcfjfgnkgaaDoorG
open Go Go.Proofs.YthocpcfjfgnkgaaDoorRv Go.Proofs
theorem lay_Itoa : ContrItoa Tryd.prog 30 := fun n w h0 h1 hg => by
  refine (Any.strconv_Itoa Tryd.laysM171 n h0 h1 w (hg.tab _ (by kernel_rfl))).mono fun e w' ⟨he, k, os, hw⟩ => ⟨he, ?_⟩
  rw [hw]
  exact Lib.below_grow _ w (Nat.le_refl _) k os
theorem lay_Join : ContrJoin Tryd.prog 22 := ⟨fun a c sep w => Tryd.strings_Join_none a c sep w, fun bk o c xs sep w h1 h2 h3 h4 h5 => Tryd.strings_Join bk o c xs sep w h1 h2 h3 h4 h5⟩
theorem lay_Atoi : ContrAtoi Tryd.prog 28 := fun s v w h1 h2 => (Tryd.strconv_Atoi_ok s h1 v h2 w).mono fun e w' ⟨he, hw⟩ => ⟨he, by
  rcases hw with rfl | ⟨t, rfl⟩
  · exact RowKit.Below.refl _ _
  · exact Lib.bytesWorld_below w _ t⟩
theorem lay_Split : ContrSplit Tryd.prog 18 := fun s sep w h1 h2 hg => by
  obtain ⟨m, hm⟩ := hg.len
  exact (Tryd.strings_Split s sep m w h1 hm h2).mono fun e w' ⟨he, hw⟩ => ⟨he, _, hw⟩
theorem lay_Cut : ContrCut2 Tryd.prog 19 := fun s sep w h1 hg => by
  obtain ⟨m, hm⟩ := hg.len
  refine (Tryd.strings_Cut s sep m w h1 hm).mono fun e w' ⟨he, n, hw⟩ => ⟨he, ?_⟩
  have := Lib.below_grow _ w (Nat.le_refl _) n #[]
  rw [Go.Sort.grow_empty] at this
  rw [hw]
  exact this
theorem lay_CutPrefix : ContrPre Tryd.prog 17 := fun s p w => Tryd.strings_CutPrefix s p w
theorem lay_IndexByte : ContrIdx Tryd.prog 34 := fun s c w => Tryd.strings_IndexByte s c w
end Go.Proofs.YthocpcfjfgnkgaaDoorG
