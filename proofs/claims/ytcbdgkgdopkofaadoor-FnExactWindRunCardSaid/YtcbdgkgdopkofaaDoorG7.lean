/- The walks of functions, each with its Lean function: laws.heldIntS, laws.heldSeaweed. No condition. -/
import Derived.Test.YtcbdgkgdopkofaaDoorG1
import Derived.Test.YtcbdgkgdopkofaaDoorG2
import Derived.Test.YtcbdgkgdopkofaaDoorG3
import Derived.Test.YtcbdgkgdopkofaaDoorG4
import Derived.Test.YtcbdgkgdopkofaaDoorG5
import Derived.Test.YtcbdgkgdopkofaaDoorG6
import Derived.Test.YtcbdgkgdopkofaaDoorGJoin
import Derived.Test.YtcbdgkgdopkofaaDoorALD
import Derived.Test.YtcbdgkgdopkofaaDoorProg
import Derived.KernelRfl
namespace Go.Proofs.YtcbdgkgdopkofaaDoor.AL
open Go Go.RowKit
set_option linter.unusedVariables false
set_option linter.unusedSimpArgs false
set_option maxRecDepth 4096
attribute [local simp] n_fn b_add b_sub b_mul b_lt b_le b_gt b_ge b_eq b_ne u_not

end Go.Proofs.YtcbdgkgdopkofaaDoor.AL
