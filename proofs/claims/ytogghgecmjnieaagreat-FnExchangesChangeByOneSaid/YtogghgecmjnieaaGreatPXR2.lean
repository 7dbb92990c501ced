/- Components, looked at by the kernel, part 2. No condition. -/
import Derived.Test.YtogghgecmjnieaaGreatPXK
import Derived.KernelRfl
namespace Go.Proofs.YtogghgecmjnieaaGreat.AL
open Go Go.Proofs.YtogghgecmjnieaaGreat.Arch
set_option linter.unusedVariables false
set_option linter.unusedSimpArgs false
set_option maxRecDepth 100000
theorem rowB_6 : c6.all rowB = true := by kernel_rfl
theorem rowB_7 : c7.all rowB = true := by kernel_rfl
end Go.Proofs.YtogghgecmjnieaaGreat.AL
