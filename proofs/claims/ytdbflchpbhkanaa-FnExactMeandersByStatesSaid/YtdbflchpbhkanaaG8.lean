/- The walks of functions, each with its Lean function: laws.FnExactCountByStates. No condition. -/
import Derived.Test.YtdbflchpbhkanaaG1
import Derived.Test.YtdbflchpbhkanaaG2
import Derived.Test.YtdbflchpbhkanaaG3
import Derived.Test.YtdbflchpbhkanaaG4
import Derived.Test.YtdbflchpbhkanaaG5
import Derived.Test.YtdbflchpbhkanaaG6
import Derived.Test.YtdbflchpbhkanaaG7
import Derived.Test.YtdbflchpbhkanaaGK1
import Derived.Test.YtdbflchpbhkanaaGK10
import Derived.Test.YtdbflchpbhkanaaGK2
import Derived.Test.YtdbflchpbhkanaaGK4
import Derived.Test.YtdbflchpbhkanaaGK7
import Derived.Test.YtdbflchpbhkanaaGK8
import Derived.Test.YtdbflchpbhkanaaGK9
import Derived.Test.YtdbflchpbhkanaaALD
import Derived.Test.YtdbflchpbhkanaaProg
import Derived.KernelRfl
namespace Go.Proofs.Ytdbflchpbhkanaa.AL
open Go Go.RowKit
set_option linter.unusedVariables false
set_option linter.unusedSimpArgs false
set_option maxRecDepth 4096
attribute [local simp] n_fn b_add b_sub b_mul b_lt b_le b_gt b_ge b_eq b_ne u_not

end Go.Proofs.Ytdbflchpbhkanaa.AL
