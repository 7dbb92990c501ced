/- Indices of seaweeds of three parts, told one by one. No condition. -/
import Derived.Test.YtfccbmpfnonjiaaPSThK1
import Derived.KernelRfl
namespace Go.Proofs.Ytfccbmpfnonjiaa.AL
open Go
set_option linter.unusedVariables false
set_option linter.unusedSimpArgs false
set_option maxRecDepth 100000
theorem thr3 : thrK 3 1 = true := by kernel_rfl
theorem thr4 : thrK 4 1 = true := by kernel_rfl
theorem thr5 : thrK 5 1 = true := by kernel_rfl
end Go.Proofs.Ytfccbmpfnonjiaa.AL
