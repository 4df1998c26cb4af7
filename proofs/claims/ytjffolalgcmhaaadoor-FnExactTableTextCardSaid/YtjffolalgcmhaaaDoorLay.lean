/- The library's contracts as the machine of values meets them. Condition: the table of powers of ten is laid. -/
import Derived.Test.YtjffolalgcmhaaaDoorRvD
import Derived.Test.YtjffolalgcmhaaaDoorShelf
import Derived.Lib.AppendIntMem
namespace Go.Proofs.YtjffolalgcmhaaaDoorG
open Go Go.Proofs.YtjffolalgcmhaaaDoorRv Go.Proofs
theorem lay_Itoa : ContrItoa Tryd.prog 109 := fun n w h0 h1 hg => by
  refine (Any.strconv_Itoa Tryd.laysM171 n h0 h1 w (hg.tab _ (by kernel_rfl))).mono fun e w' ⟨he, k, os, hw⟩ => ⟨he, ?_⟩
  rw [hw]
  exact Lib.below_grow _ w (Nat.le_refl _) k os
theorem lay_Join : ContrJoin Tryd.prog 92 := ⟨fun a c sep w => Tryd.strings_Join_none a c sep w, fun bk o c xs sep w h1 h2 h3 h4 h5 => Tryd.strings_Join bk o c xs sep w h1 h2 h3 h4 h5⟩
end Go.Proofs.YtjffolalgcmhaaaDoorG
