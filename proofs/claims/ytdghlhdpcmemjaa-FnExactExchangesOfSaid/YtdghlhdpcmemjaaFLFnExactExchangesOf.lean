/- The law FnExactExchangesOf over the heap that is handed in. No condition. -/
import Derived.Test.YtdghlhdpcmemjaaPXL
import Derived.Test.YtdghlhdpcmemjaaALC
import Derived.Below
namespace Go.Proofs.Ytdghlhdpcmemjaa.AL
open Go
set_option linter.unusedVariables false
theorem FnExactExchangesOf (H : AH) (v0 : Value) (x0 : List Int) (h0 : Sl H v0 (ints x0)) (_ : ∀ n ∈ x0, (Lit.int .i64 n).wf = true) (l0 : x0.length ≤ maxLen) :
    ACall Try.prog 8 [v0] H (.bool true) H :=
  ACallT.forget (F_laws_FnExactExchangesOf_w (fu := 2000000) h0 (law_ExchangesOf l0)) rfl fun u G q => ⟨q.2.1, q.1.pre⟩
end Go.Proofs.Ytdghlhdpcmemjaa.AL
