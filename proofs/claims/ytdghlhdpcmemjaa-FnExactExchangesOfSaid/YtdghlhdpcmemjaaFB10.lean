/- slices.Repeat of a list of one number. No condition. -/
import Derived.Test.YtdghlhdpcmemjaaFB2
import Derived.Test.YtdghlhdpcmemjaaALB
namespace Go.Proofs.Ytdghlhdpcmemjaa.AL
open Go
attribute [local simp] aBin' aBin aBinI aUn aNil flatV
set_option linter.unusedVariables false
set_option linter.unusedSimpArgs false
set_option maxRecDepth 4096

end Go.Proofs.Ytdghlhdpcmemjaa.AL
