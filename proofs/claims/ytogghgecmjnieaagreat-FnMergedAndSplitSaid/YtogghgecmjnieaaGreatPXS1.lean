/- Exchanges, looked at by the kernel, part 1. No condition. -/
import Derived.Test.YtogghgecmjnieaaGreatPXK
import Derived.KernelRfl
namespace Go.Proofs.YtogghgecmjnieaaGreat.AL
open Go Go.Proofs.YtogghgecmjnieaaGreat.Arch
set_option linter.unusedVariables false
set_option linter.unusedSimpArgs false
set_option maxRecDepth 100000
theorem candB_9 : c9.all candB = true := by kernel_rfl
theorem candB_10 : c10.all candB = true := by kernel_rfl
theorem candB_11 : c11.all candB = true := by kernel_rfl
theorem candB_12 : c12.all candB = true := by kernel_rfl
theorem candB_13 : c13.all candB = true := by kernel_rfl
theorem candB_14 : c14.all candB = true := by kernel_rfl
end Go.Proofs.YtogghgecmjnieaaGreat.AL
