/- Exchanges: what the kernel looks at. No condition. -/
import Derived.Test.YtdghlhdpcmemjaaPBS
import Derived.Test.YtdghlhdpcmemjaaG1
import Derived.Test.YtdghlhdpcmemjaaG2
import Derived.Test.YtdghlhdpcmemjaaG3
import Derived.Test.YtdghlhdpcmemjaaG4
import Derived.Test.YtdghlhdpcmemjaaG5
import Derived.Test.YtdghlhdpcmemjaaG6
import Derived.Test.YtdghlhdpcmemjaaG7
namespace Go.Proofs.Ytdghlhdpcmemjaa.AL
open Go Go.Proofs.Ytdghlhdpcmemjaa.Arch
set_option linter.unusedVariables false
set_option linter.unusedSimpArgs false
def okN (p : List Int) : Bool := match F_impl_ExchangesOf 2000000 p, F_spec_ExchangesOf 2000000 p with
  | some (a, t), some (b, u) => ((a == b) && (t && u)) && (decide (a.length ≤ 15) && a.all fun x => decide (x.length ≤ 12))
  | _, _ => false
end Go.Proofs.Ytdghlhdpcmemjaa.AL
