/- Exchanges, looked at by the kernel, part 2. No condition. -/
import Derived.Test.YtogghgecmjnieaaGreatPXK
import Derived.KernelRfl
namespace Go.Proofs.YtogghgecmjnieaaGreat.AL
open Go Go.Proofs.YtogghgecmjnieaaGreat.Arch
set_option linter.unusedVariables false
set_option linter.unusedSimpArgs false
set_option maxRecDepth 100000
theorem candB_9 : c9.all candB = true := by kernel_rfl
theorem valB_9 : c9.all valB = true := by kernel_rfl
theorem exB_9 : c9.all exB = true := by kernel_rfl
theorem oneB_9 : c9.all oneB = true := by kernel_rfl
theorem candB_10 : c10.all candB = true := by kernel_rfl
theorem valB_10 : c10.all valB = true := by kernel_rfl
theorem exB_10 : c10.all exB = true := by kernel_rfl
theorem oneB_10 : c10.all oneB = true := by kernel_rfl
theorem candB_11 : c11.all candB = true := by kernel_rfl
theorem valB_11 : c11.all valB = true := by kernel_rfl
theorem exB_11 : c11.all exB = true := by kernel_rfl
theorem oneB_11 : c11.all oneB = true := by kernel_rfl
theorem candB_12 : c12.all candB = true := by kernel_rfl
theorem valB_12 : c12.all valB = true := by kernel_rfl
theorem exB_12 : c12.all exB = true := by kernel_rfl
theorem oneB_12 : c12.all oneB = true := by kernel_rfl
theorem candB_13 : c13.all candB = true := by kernel_rfl
theorem valB_13 : c13.all valB = true := by kernel_rfl
theorem exB_13 : c13.all exB = true := by kernel_rfl
theorem oneB_13 : c13.all oneB = true := by kernel_rfl
theorem candB_14 : c14.all candB = true := by kernel_rfl
theorem valB_14 : c14.all valB = true := by kernel_rfl
theorem exB_14 : c14.all exB = true := by kernel_rfl
theorem oneB_14 : c14.all oneB = true := by kernel_rfl
end Go.Proofs.YtogghgecmjnieaaGreat.AL
