/- Exchanges, looked at by the kernel, part 0. No condition. -/
import Derived.Test.YtogghgecmjnieaaGreatPXK
import Derived.KernelRfl
namespace Go.Proofs.YtogghgecmjnieaaGreat.AL
open Go Go.Proofs.YtogghgecmjnieaaGreat.Arch
set_option linter.unusedVariables false
set_option linter.unusedSimpArgs false
set_option maxRecDepth 100000
theorem candB_0 : c0.all candB = true := by kernel_rfl
theorem valB_0 : c0.all valB = true := by kernel_rfl
theorem exB_0 : c0.all exB = true := by kernel_rfl
theorem oneB_0 : c0.all oneB = true := by kernel_rfl
theorem candB_1 : c1.all candB = true := by kernel_rfl
theorem valB_1 : c1.all valB = true := by kernel_rfl
theorem exB_1 : c1.all exB = true := by kernel_rfl
theorem oneB_1 : c1.all oneB = true := by kernel_rfl
theorem candB_2 : c2.all candB = true := by kernel_rfl
theorem valB_2 : c2.all valB = true := by kernel_rfl
theorem exB_2 : c2.all exB = true := by kernel_rfl
theorem oneB_2 : c2.all oneB = true := by kernel_rfl
theorem candB_3 : c3.all candB = true := by kernel_rfl
theorem valB_3 : c3.all valB = true := by kernel_rfl
theorem exB_3 : c3.all exB = true := by kernel_rfl
theorem oneB_3 : c3.all oneB = true := by kernel_rfl
end Go.Proofs.YtogghgecmjnieaaGreat.AL
