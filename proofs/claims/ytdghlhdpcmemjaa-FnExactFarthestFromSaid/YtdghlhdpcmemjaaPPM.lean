/- Lists of pairs compared and marked. No condition. -/
import Derived.Test.YtdghlhdpcmemjaaPA2
namespace Go.Proofs.Ytdghlhdpcmemjaa.AL
open Go
set_option linter.unusedVariables false
set_option linter.unusedSimpArgs false
set_option maxRecDepth 100000
section
variable {fu : Nat}
end
end Go.Proofs.Ytdghlhdpcmemjaa.AL
