/- The reference's count, looked at by the kernel, part 1. No condition. -/
import Derived.Test.YtogghgecmjnieaaGreatPXN
import Derived.KernelRfl
namespace Go.Proofs.YtogghgecmjnieaaGreat.AL
open Go Go.Proofs.YtogghgecmjnieaaGreat.Arch
set_option linter.unusedVariables false
set_option linter.unusedSimpArgs false
set_option maxRecDepth 100000
theorem rowM_8 : c8.all rowM = true := by kernel_rfl
theorem rowM_9 : c9.all rowM = true := by kernel_rfl
theorem rowM_10 : c10.all rowM = true := by kernel_rfl
theorem rowM_11 : c11.all rowM = true := by kernel_rfl
theorem rowM_12 : c12.all rowM = true := by kernel_rfl
theorem rowM_13 : c13.all rowM = true := by kernel_rfl
theorem rowM_14 : c14.all rowM = true := by kernel_rfl
end Go.Proofs.YtogghgecmjnieaaGreat.AL
