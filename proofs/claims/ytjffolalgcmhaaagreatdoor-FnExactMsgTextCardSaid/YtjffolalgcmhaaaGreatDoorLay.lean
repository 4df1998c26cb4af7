/- The library's contracts as the machine of values meets them. Condition: the table of powers of ten is laid. -/
import Derived.Test.YtjffolalgcmhaaaGreatDoorRvD
import Derived.Test.YtjffolalgcmhaaaGreatDoorShelf
import Derived.Lib.AppendIntMem
namespace Go.Proofs.YtjffolalgcmhaaaGreatDoorG
open Go Go.Proofs.YtjffolalgcmhaaaGreatDoorRv Go.Proofs
theorem lay_Itoa : ContrItoa Tryz.prog 74 := fun n w h0 h1 hg => by
  refine (Any.strconv_Itoa Tryz.laysM171 n h0 h1 w (hg.tab _ (by kernel_rfl))).mono fun e w' ⟨he, k, os, hw⟩ => ⟨he, ?_⟩
  rw [hw]
  exact Lib.below_grow _ w (Nat.le_refl _) k os
theorem lay_Join : ContrJoin Tryz.prog 76 := ⟨fun a c sep w => Tryz.strings_Join_none a c sep w, fun bk o c xs sep w h1 h2 h3 h4 h5 => Tryz.strings_Join bk o c xs sep w h1 h2 h3 h4 h5⟩
end Go.Proofs.YtjffolalgcmhaaaGreatDoorG
