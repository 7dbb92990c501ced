/- The walks of functions, each with its Lean function: spec.exPath, spec.ExchangePath, impl.better, impl.path, impl.ExchangePath, laws.FnExactExchangePath, laws.szIntS, laws.szMeander, laws.toMeander, spec.exSome. No condition. -/
import Derived.Test.YtdghlhdpcmemjaaFBD
import Derived.Test.YtdghlhdpcmemjaaFBE
import Derived.Test.YtdghlhdpcmemjaaG1
import Derived.Test.YtdghlhdpcmemjaaG2
import Derived.Test.YtdghlhdpcmemjaaG3
import Derived.Test.YtdghlhdpcmemjaaG4
import Derived.Test.YtdghlhdpcmemjaaG5
import Derived.Test.YtdghlhdpcmemjaaG6
import Derived.Test.YtdghlhdpcmemjaaG7
import Derived.Test.YtdghlhdpcmemjaaALD
import Derived.Test.YtdghlhdpcmemjaaProg
import Derived.KernelRfl
namespace Go.Proofs.Ytdghlhdpcmemjaa.AL
open Go Go.RowKit
set_option linter.unusedVariables false
set_option linter.unusedSimpArgs false
set_option maxRecDepth 4096
theorem ag_38 : aggT Try.prog 38 = some true := by kernel_rfl
theorem sz_38 : sizeT Try.prog 38 = some 2 := by kernel_rfl
end Go.Proofs.Ytdghlhdpcmemjaa.AL
