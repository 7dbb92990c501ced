/- The curves of a pair, and how many there are. No condition. -/
import Derived.Test.YtdghlhdpcmemjaaFB14
namespace Go.Proofs.Ytdghlhdpcmemjaa.AL
open Go Go.Proofs.Ytdghlhdpcmemjaa.Arch
attribute [local simp] aBin' aBin aBinI aUn aNil flatV
set_option linter.unusedVariables false
set_option linter.unusedSimpArgs false
set_option maxRecDepth 4096

end Go.Proofs.Ytdghlhdpcmemjaa.AL
