/- Components, looked at by the kernel, part 0. No condition. -/
import Derived.Test.YtogghgecmjnieaaGreatPXK
import Derived.KernelRfl
namespace Go.Proofs.YtogghgecmjnieaaGreat.AL
open Go Go.Proofs.YtogghgecmjnieaaGreat.Arch
set_option linter.unusedVariables false
set_option linter.unusedSimpArgs false
set_option maxRecDepth 100000
theorem rowB_0 : c0.all rowB = true := by kernel_rfl
theorem rowB_1 : c1.all rowB = true := by kernel_rfl
theorem rowB_2 : c2.all rowB = true := by kernel_rfl
theorem rowB_3 : c3.all rowB = true := by kernel_rfl
theorem rowB_4 : c4.all rowB = true := by kernel_rfl
theorem rowB_5 : c5.all rowB = true := by kernel_rfl
theorem rowB_6 : c6.all rowB = true := by kernel_rfl
theorem rowB_7 : c7.all rowB = true := by kernel_rfl
end Go.Proofs.YtogghgecmjnieaaGreat.AL
