/- Distances and pairs of systems, told on the abstract heap, as given contracts of the print. No condition. -/
import Derived.Test.YtdghlhdpcmemjaaFB16
import Derived.Test.YtdghlhdpcmemjaaALC
namespace Go.Proofs.Ytdghlhdpcmemjaa.AL
open Go Go.RowKit
set_option linter.unusedVariables false
set_option linter.unusedSimpArgs false
end Go.Proofs.Ytdghlhdpcmemjaa.AL
