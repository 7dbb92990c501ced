/- Plain laws of pairs of lists: sizes, copies, comparisons, marks. No condition. -/
import Derived.Test.YtbckijeffiofdaaPA1
namespace Go.Proofs.Ytbckijeffiofdaa.AL
open Go
set_option linter.unusedVariables false
set_option linter.unusedSimpArgs false
variable {fu : Nat} {a b : List Int}
end Go.Proofs.Ytbckijeffiofdaa.AL
