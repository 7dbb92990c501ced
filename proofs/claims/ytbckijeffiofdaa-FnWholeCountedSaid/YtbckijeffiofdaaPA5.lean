/- Pairs: both checks answer the same. No condition. -/
import Derived.Test.YtbckijeffiofdaaPA3
namespace Go.Proofs.Ytbckijeffiofdaa.AL
open Go Go.Proofs.Ytbckijeffiofdaa.Arch
set_option linter.unusedVariables false
set_option linter.unusedSimpArgs false
set_option maxRecDepth 100000
end Go.Proofs.Ytbckijeffiofdaa.AL
