/- The library's contracts as the machine of values meets them. Condition: the table of powers of ten is laid. -/
import Derived.Test.YthocpcfjfgnkgaaRvD
import Derived.Test.YthocpcfjfgnkgaaShelf
namespace Go.Proofs.YthocpcfjfgnkgaaG
open Go Go.Proofs.YthocpcfjfgnkgaaRv Go.Proofs
theorem lay_Sort : ContrSort Try.prog 30 := contr_sort (fun p cap w => Try.slices_Sort_int_none p cap w) fun blk off cap zs w h1 h2 h3 => Try.slices_Sort_int blk off cap zs w h1 h2 h3
theorem lay_Compact : ContrCut Try.prog 31 := contr_cut (fun a cap w => Try.slices_Compact_int_empty a cap w) fun blk off cap zs w h1 h2 h3 => Try.slices_Compact_int blk off cap zs w h1 h2 h3
end Go.Proofs.YthocpcfjfgnkgaaG
