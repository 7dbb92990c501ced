/- The walks of functions, each with its Lean function: laws.FnExchangesChangeByOne. No condition. -/
import Derived.Test.YtogghgecmjnieaaGreatG1
import Derived.Test.YtogghgecmjnieaaGreatG10
import Derived.Test.YtogghgecmjnieaaGreatG2
import Derived.Test.YtogghgecmjnieaaGreatG3
import Derived.Test.YtogghgecmjnieaaGreatG4
import Derived.Test.YtogghgecmjnieaaGreatG5
import Derived.Test.YtogghgecmjnieaaGreatG6
import Derived.Test.YtogghgecmjnieaaGreatG7
import Derived.Test.YtogghgecmjnieaaGreatG8
import Derived.Test.YtogghgecmjnieaaGreatG9
import Derived.Test.YtogghgecmjnieaaGreatALD
import Derived.Test.YtogghgecmjnieaaGreatProg
import Derived.KernelRfl
namespace Go.Proofs.YtogghgecmjnieaaGreat.AL
open Go Go.RowKit
set_option linter.unusedVariables false
set_option linter.unusedSimpArgs false
set_option maxRecDepth 4096
attribute [local simp] n_fn b_add b_sub b_mul b_lt b_le b_gt b_ge b_eq b_ne u_not
theorem un_4 : Tryz.prog.underlying 4 = some .bool := by kernel_rfl
end Go.Proofs.YtogghgecmjnieaaGreat.AL
