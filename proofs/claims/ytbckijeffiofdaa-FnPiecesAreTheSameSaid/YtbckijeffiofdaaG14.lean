/- The walks of functions, each with its Lean function: spec.DrawInsideOf, impl.isStretch, impl.InsideOf, spec.siStretch, spec.InsideOf, impl.OutsideOf, spec.OutsideOf, impl.IsClosed, spec.IsClosed, bits.Mul32. No condition. -/
import Derived.Test.YtbckijeffiofdaaG1
import Derived.Test.YtbckijeffiofdaaG10
import Derived.Test.YtbckijeffiofdaaG11
import Derived.Test.YtbckijeffiofdaaG12
import Derived.Test.YtbckijeffiofdaaG13
import Derived.Test.YtbckijeffiofdaaG2
import Derived.Test.YtbckijeffiofdaaG3
import Derived.Test.YtbckijeffiofdaaG4
import Derived.Test.YtbckijeffiofdaaG5
import Derived.Test.YtbckijeffiofdaaG6
import Derived.Test.YtbckijeffiofdaaG7
import Derived.Test.YtbckijeffiofdaaG8
import Derived.Test.YtbckijeffiofdaaG9
import Derived.Test.YtbckijeffiofdaaALD
import Derived.Test.YtbckijeffiofdaaProg
import Derived.KernelRfl
namespace Go.Proofs.Ytbckijeffiofdaa.AL
open Go Go.RowKit
set_option linter.unusedVariables false
set_option linter.unusedSimpArgs false
set_option maxRecDepth 4096
attribute [local simp] n_fn b_add b_sub b_mul b_lt b_le b_gt b_ge b_eq b_ne u_not

end Go.Proofs.Ytbckijeffiofdaa.AL
