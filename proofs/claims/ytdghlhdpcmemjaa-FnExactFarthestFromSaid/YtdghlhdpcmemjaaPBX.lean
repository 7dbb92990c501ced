/- Exchanges: what the kernel looks at. No condition. -/
import Derived.Test.YtdghlhdpcmemjaaPBS
import Derived.Test.YtdghlhdpcmemjaaG1
import Derived.Test.YtdghlhdpcmemjaaG2
import Derived.Test.YtdghlhdpcmemjaaG3
import Derived.Test.YtdghlhdpcmemjaaG4
import Derived.Test.YtdghlhdpcmemjaaG5
import Derived.Test.YtdghlhdpcmemjaaG6
import Derived.Test.YtdghlhdpcmemjaaG7
import Derived.Test.YtdghlhdpcmemjaaG8
import Derived.Test.YtdghlhdpcmemjaaG9
import Derived.Test.YtdghlhdpcmemjaaG10
import Derived.Test.YtdghlhdpcmemjaaG11
import Derived.Test.YtdghlhdpcmemjaaG12
namespace Go.Proofs.Ytdghlhdpcmemjaa.AL
open Go Go.Proofs.Ytdghlhdpcmemjaa.Arch
set_option linter.unusedVariables false
set_option linter.unusedSimpArgs false
end Go.Proofs.Ytdghlhdpcmemjaa.AL
