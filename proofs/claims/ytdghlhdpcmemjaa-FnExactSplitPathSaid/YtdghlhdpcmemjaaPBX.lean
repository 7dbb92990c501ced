/- Exchanges: what the kernel looks at. No condition. -/
import Derived.Test.YtdghlhdpcmemjaaPBS
import Derived.Test.YtdghlhdpcmemjaaG1
import Derived.Test.YtdghlhdpcmemjaaG2
import Derived.Test.YtdghlhdpcmemjaaG3
import Derived.Test.YtdghlhdpcmemjaaG4
import Derived.Test.YtdghlhdpcmemjaaG5
import Derived.Test.YtdghlhdpcmemjaaG6
import Derived.Test.YtdghlhdpcmemjaaG7
import Derived.Test.YtdghlhdpcmemjaaG8
import Derived.Test.YtdghlhdpcmemjaaG9
import Derived.Test.YtdghlhdpcmemjaaG10
import Derived.Test.YtdghlhdpcmemjaaG11
import Derived.Test.YtdghlhdpcmemjaaG12
namespace Go.Proofs.Ytdghlhdpcmemjaa.AL
open Go Go.Proofs.Ytdghlhdpcmemjaa.Arch
set_option linter.unusedVariables false
set_option linter.unusedSimpArgs false
def csOf (p : List Int) : List (Int × Int) := (F_impl_couples 2000000 p).getD []
def okC (p : List Int) : Bool := match F_impl_couples 2000000 p, F_spec_exPairs 2000000 p with
  | some c, some r => (r == c.map fun x => [x.1, x.2]) && (decide (c.length ≤ 15) && c.all fun x => match F_impl_exchanged 2000000 p x.1 x.2, F_spec_exAt 2000000 p x.1 x.2 with
    | some a, some b => (a == b) && (sysB a && decide (a.length = p.length))
    | _, _ => false)
  | _, _ => false
end Go.Proofs.Ytdghlhdpcmemjaa.AL
