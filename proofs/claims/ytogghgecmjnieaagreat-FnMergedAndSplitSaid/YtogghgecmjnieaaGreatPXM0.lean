/- The reference's count, looked at by the kernel, part 0. No condition. -/
import Derived.Test.YtogghgecmjnieaaGreatPXN
import Derived.KernelRfl
namespace Go.Proofs.YtogghgecmjnieaaGreat.AL
open Go Go.Proofs.YtogghgecmjnieaaGreat.Arch
set_option linter.unusedVariables false
set_option linter.unusedSimpArgs false
set_option maxRecDepth 100000
theorem rowM_0 : c0.all rowM = true := by kernel_rfl
theorem rowM_1 : c1.all rowM = true := by kernel_rfl
theorem rowM_2 : c2.all rowM = true := by kernel_rfl
theorem rowM_3 : c3.all rowM = true := by kernel_rfl
theorem rowM_4 : c4.all rowM = true := by kernel_rfl
theorem rowM_5 : c5.all rowM = true := by kernel_rfl
theorem rowM_6 : c6.all rowM = true := by kernel_rfl
theorem rowM_7 : c7.all rowM = true := by kernel_rfl
end Go.Proofs.YtogghgecmjnieaaGreat.AL
