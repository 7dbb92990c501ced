/- Exchanges: the program's and the reference's are one; the laws CountExchanges, ExchangeAt, ExchangesOf. No condition. -/
import Derived.Test.YtdghlhdpcmemjaaPBC1
import Derived.Test.YtdghlhdpcmemjaaPBC2
import Derived.Test.YtdghlhdpcmemjaaPBC3
import Derived.Test.YtdghlhdpcmemjaaPBN1
import Derived.Test.YtdghlhdpcmemjaaPBN2
import Derived.Test.YtdghlhdpcmemjaaPBN3
import Derived.Test.YtdghlhdpcmemjaaPRM
namespace Go.Proofs.Ytdghlhdpcmemjaa.AL
open Go Go.Proofs.Ytdghlhdpcmemjaa.Arch
set_option linter.unusedVariables false
set_option linter.unusedSimpArgs false
section
variable {fu : Nat} {p q : List Int}
theorem good_eq (h : p.length ≤ 1048576) : F_spec_ahGood fu p = some (sysB p) := by
  unfold F_spec_ahGood
  rw [if_pos (by omega)]
theorem issys_eq (h : p.length ≤ 1048576) : F_impl_IsSystem fu p = some (sysB p) := by
  unfold F_impl_IsSystem
  rw [if_pos (by omega)]
end
end Go.Proofs.Ytdghlhdpcmemjaa.AL
