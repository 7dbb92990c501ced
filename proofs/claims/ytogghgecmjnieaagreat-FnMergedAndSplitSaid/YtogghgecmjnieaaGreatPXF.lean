/- The law FnExchangesChangeByOne. No condition. -/
import Derived.Test.YtogghgecmjnieaaGreatPXE
import Derived.KernelRfl
namespace Go.Proofs.YtogghgecmjnieaaGreat.AL
open Go Go.Proofs.YtogghgecmjnieaaGreat.Arch
set_option linter.unusedVariables false
set_option linter.unusedSimpArgs false
set_option maxRecDepth 100000
theorem bneS (b : Bool) : bne' b b = false := by cases b <;> rfl
section
variable {p r s : List Int}
end
end Go.Proofs.YtogghgecmjnieaaGreat.AL
