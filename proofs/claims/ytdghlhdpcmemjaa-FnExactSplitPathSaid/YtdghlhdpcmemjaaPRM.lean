/- Rows of rows marked, held and compared. No condition. -/
import Derived.Test.YtdghlhdpcmemjaaPA1
namespace Go.Proofs.Ytdghlhdpcmemjaa.AL
open Go
set_option linter.unusedVariables false
set_option linter.unusedSimpArgs false
section
variable {fu : Nat}
end
end Go.Proofs.Ytdghlhdpcmemjaa.AL
