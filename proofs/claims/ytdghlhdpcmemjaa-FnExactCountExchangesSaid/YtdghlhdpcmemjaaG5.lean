/- The walks of functions, each with its Lean function: impl.exchanged, impl.ExchangeAt, laws.markIntS, laws.heldIntS, laws.FnExactExchangeAt, spec.exBefore, spec.l1Same, spec.exPut, spec.ExchangesOf, slices.insertionSortCmpFunc[[]int]. No condition. -/
import Derived.Test.YtdghlhdpcmemjaaFBD
import Derived.Test.YtdghlhdpcmemjaaFBE
import Derived.Test.YtdghlhdpcmemjaaG1
import Derived.Test.YtdghlhdpcmemjaaG2
import Derived.Test.YtdghlhdpcmemjaaG3
import Derived.Test.YtdghlhdpcmemjaaG4
import Derived.Test.YtdghlhdpcmemjaaALD
import Derived.Test.YtdghlhdpcmemjaaProg
import Derived.KernelRfl
namespace Go.Proofs.Ytdghlhdpcmemjaa.AL
open Go Go.RowKit
set_option linter.unusedVariables false
set_option linter.unusedSimpArgs false
set_option maxRecDepth 4096
def F_impl_exchanged (fu : Nat) (x0 : List Int) (x1 : Int) (x2 : Int) : Option (List Int) :=
  bd (F_slices_Clone_Sint fu x0) fun r1 =>
  gd (inL x0 x2) (
  gd (inL x0 x1) (
  bif (ilt (gat 0 x0 x2) (gat 0 x0 x1)) then
    bd (F_impl_exchanged_1 fu x1 x2 r1) fun r2 =>
    gd (inL x0 x2) (
    gd (inL x0 x1) (
    bd (F_impl_exchanged_1 fu (gat 0 x0 x2) (gat 0 x0 x1) r2) fun r3 =>
    some r3))
  else
    gd (inL x0 x2) (
    bd (F_impl_exchanged_1 fu x1 (gat 0 x0 x2) r1) fun r4 =>
    gd (inL x0 x1) (
    bd (F_impl_exchanged_1 fu (gat 0 x0 x1) x2 r4) fun r5 =>
    some r5))))
end Go.Proofs.Ytdghlhdpcmemjaa.AL
