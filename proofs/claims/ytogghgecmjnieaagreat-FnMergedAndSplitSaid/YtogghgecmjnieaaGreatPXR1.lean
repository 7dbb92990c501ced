/- Components, looked at by the kernel, part 1. No condition. -/
import Derived.Test.YtogghgecmjnieaaGreatPXK
import Derived.KernelRfl
namespace Go.Proofs.YtogghgecmjnieaaGreat.AL
open Go Go.Proofs.YtogghgecmjnieaaGreat.Arch
set_option linter.unusedVariables false
set_option linter.unusedSimpArgs false
set_option maxRecDepth 100000
theorem rowB_8 : c8.all rowB = true := by kernel_rfl
theorem rowB_9 : c9.all rowB = true := by kernel_rfl
theorem rowB_10 : c10.all rowB = true := by kernel_rfl
theorem rowB_11 : c11.all rowB = true := by kernel_rfl
theorem rowB_12 : c12.all rowB = true := by kernel_rfl
theorem rowB_13 : c13.all rowB = true := by kernel_rfl
theorem rowB_14 : c14.all rowB = true := by kernel_rfl
end Go.Proofs.YtogghgecmjnieaaGreat.AL
