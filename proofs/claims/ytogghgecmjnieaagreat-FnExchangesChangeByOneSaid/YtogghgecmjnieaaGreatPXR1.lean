/- Components, looked at by the kernel, part 1. No condition. -/
import Derived.Test.YtogghgecmjnieaaGreatPXK
import Derived.KernelRfl
namespace Go.Proofs.YtogghgecmjnieaaGreat.AL
open Go Go.Proofs.YtogghgecmjnieaaGreat.Arch
set_option linter.unusedVariables false
set_option linter.unusedSimpArgs false
set_option maxRecDepth 100000
theorem rowB_4 : c4.all rowB = true := by kernel_rfl
theorem rowB_5 : c5.all rowB = true := by kernel_rfl
end Go.Proofs.YtogghgecmjnieaaGreat.AL
