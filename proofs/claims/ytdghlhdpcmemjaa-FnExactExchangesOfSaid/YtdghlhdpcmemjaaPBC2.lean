/- Exchanges of systems, looked at by the kernel. No condition. -/
import Derived.Test.YtdghlhdpcmemjaaPBX
import Derived.KernelRfl
namespace Go.Proofs.Ytdghlhdpcmemjaa.AL
open Go Go.Proofs.Ytdghlhdpcmemjaa.Arch
set_option maxRecDepth 100000
end Go.Proofs.Ytdghlhdpcmemjaa.AL
