/- Indices of seaweeds of three parts, told one by one. No condition. -/
import Derived.Test.YtfccbmpfnonjiaaPSThK2
import Derived.KernelRfl
namespace Go.Proofs.Ytfccbmpfnonjiaa.AL
open Go
set_option linter.unusedVariables false
set_option linter.unusedSimpArgs false
set_option maxRecDepth 100000
theorem thr6 : thrK 6 2 = true := by kernel_rfl
theorem thr7 : thrK 8 3 = true := by kernel_rfl
theorem thr8 : thrK 11 10 = true := by kernel_rfl
end Go.Proofs.Ytfccbmpfnonjiaa.AL
