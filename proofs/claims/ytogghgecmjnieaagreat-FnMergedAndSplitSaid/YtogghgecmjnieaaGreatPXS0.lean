/- Exchanges, looked at by the kernel, part 0. No condition. -/
import Derived.Test.YtogghgecmjnieaaGreatPXK
import Derived.KernelRfl
namespace Go.Proofs.YtogghgecmjnieaaGreat.AL
open Go Go.Proofs.YtogghgecmjnieaaGreat.Arch
set_option linter.unusedVariables false
set_option linter.unusedSimpArgs false
set_option maxRecDepth 100000
theorem candB_0 : c0.all candB = true := by kernel_rfl
theorem candB_1 : c1.all candB = true := by kernel_rfl
theorem candB_2 : c2.all candB = true := by kernel_rfl
theorem candB_3 : c3.all candB = true := by kernel_rfl
theorem candB_4 : c4.all candB = true := by kernel_rfl
theorem candB_5 : c5.all candB = true := by kernel_rfl
theorem candB_6 : c6.all candB = true := by kernel_rfl
theorem candB_7 : c7.all candB = true := by kernel_rfl
theorem candB_8 : c8.all candB = true := by kernel_rfl
end Go.Proofs.YtogghgecmjnieaaGreat.AL
