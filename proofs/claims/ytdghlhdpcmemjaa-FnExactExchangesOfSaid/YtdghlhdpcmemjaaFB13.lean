/- The way of a pair from a point on: the program's and the reference's. No condition. -/
import Derived.Test.YtdghlhdpcmemjaaFB11
import Derived.Test.YtdghlhdpcmemjaaFB12
namespace Go.Proofs.Ytdghlhdpcmemjaa.AL
open Go Go.Proofs.Ytdghlhdpcmemjaa.Arch
attribute [local simp] aBin' aBin aBinI aUn aNil flatV
set_option linter.unusedVariables false
set_option linter.unusedSimpArgs false
set_option maxRecDepth 4096

end Go.Proofs.Ytdghlhdpcmemjaa.AL
