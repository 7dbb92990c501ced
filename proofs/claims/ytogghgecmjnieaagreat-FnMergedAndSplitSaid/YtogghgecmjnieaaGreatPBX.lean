/- Exchanges: what the kernel looks at. No condition. -/
import Derived.Test.YtogghgecmjnieaaGreatPBS
import Derived.Test.YtogghgecmjnieaaGreatG1
import Derived.Test.YtogghgecmjnieaaGreatG2
import Derived.Test.YtogghgecmjnieaaGreatG3
import Derived.Test.YtogghgecmjnieaaGreatG4
import Derived.Test.YtogghgecmjnieaaGreatG5
import Derived.Test.YtogghgecmjnieaaGreatG6
import Derived.Test.YtogghgecmjnieaaGreatG7
import Derived.Test.YtogghgecmjnieaaGreatG8
import Derived.Test.YtogghgecmjnieaaGreatG9
import Derived.Test.YtogghgecmjnieaaGreatG10
import Derived.Test.YtogghgecmjnieaaGreatG11
import Derived.Test.YtogghgecmjnieaaGreatG12
import Derived.Test.YtogghgecmjnieaaGreatG13
import Derived.Test.YtogghgecmjnieaaGreatG14
import Derived.Test.YtogghgecmjnieaaGreatG15
namespace Go.Proofs.YtogghgecmjnieaaGreat.AL
open Go Go.Proofs.YtogghgecmjnieaaGreat.Arch
set_option linter.unusedVariables false
set_option linter.unusedSimpArgs false
def csOf (p : List Int) : List (Int × Int) := (F_impl_couples 2000000 p).getD []
def okC (p : List Int) : Bool := match F_impl_couples 2000000 p, F_spec_exPairs 2000000 p with
 | some c, some r => (r == c.map fun x => [x.1, x.2]) && (decide (c.length ≤ 15) && c.all fun x => match F_impl_exchanged 2000000 p x.1 x.2, F_spec_exAt 2000000 p x.1 x.2 with
  | some a, some b => (a == b) && (sysB a && decide (a.length = p.length))
  | _, _ => false)
 | _, _ => false
end Go.Proofs.YtogghgecmjnieaaGreat.AL
