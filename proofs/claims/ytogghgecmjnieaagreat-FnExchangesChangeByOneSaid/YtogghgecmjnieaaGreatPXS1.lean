/- Exchanges, looked at by the kernel, part 1. No condition. -/
import Derived.Test.YtogghgecmjnieaaGreatPXK
import Derived.KernelRfl
namespace Go.Proofs.YtogghgecmjnieaaGreat.AL
open Go Go.Proofs.YtogghgecmjnieaaGreat.Arch
set_option linter.unusedVariables false
set_option linter.unusedSimpArgs false
set_option maxRecDepth 100000
theorem candB_4 : c4.all candB = true := by kernel_rfl
theorem valB_4 : c4.all valB = true := by kernel_rfl
theorem exB_4 : c4.all exB = true := by kernel_rfl
theorem oneB_4 : c4.all oneB = true := by kernel_rfl
theorem candB_5 : c5.all candB = true := by kernel_rfl
theorem valB_5 : c5.all valB = true := by kernel_rfl
theorem exB_5 : c5.all exB = true := by kernel_rfl
theorem oneB_5 : c5.all oneB = true := by kernel_rfl
theorem candB_6 : c6.all candB = true := by kernel_rfl
theorem valB_6 : c6.all valB = true := by kernel_rfl
theorem exB_6 : c6.all exB = true := by kernel_rfl
theorem oneB_6 : c6.all oneB = true := by kernel_rfl
theorem candB_7 : c7.all candB = true := by kernel_rfl
theorem valB_7 : c7.all valB = true := by kernel_rfl
theorem exB_7 : c7.all exB = true := by kernel_rfl
theorem oneB_7 : c7.all oneB = true := by kernel_rfl
theorem candB_8 : c8.all candB = true := by kernel_rfl
theorem valB_8 : c8.all valB = true := by kernel_rfl
theorem exB_8 : c8.all exB = true := by kernel_rfl
theorem oneB_8 : c8.all oneB = true := by kernel_rfl
end Go.Proofs.YtogghgecmjnieaaGreat.AL
