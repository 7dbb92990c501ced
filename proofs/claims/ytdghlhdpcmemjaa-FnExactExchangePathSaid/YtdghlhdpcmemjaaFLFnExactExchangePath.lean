/- The law FnExactExchangePath over the heap that is handed in. No condition. -/
import Derived.Test.YtdghlhdpcmemjaaPXP
import Derived.Test.YtdghlhdpcmemjaaALC
import Derived.Below
namespace Go.Proofs.Ytdghlhdpcmemjaa.AL
open Go
set_option linter.unusedVariables false
theorem FnExactExchangePath (H : AH) (v0 : Value) (x0 : List Int) (v1 : Value) (x1 : List Int) (h0 : Sl H v0 (ints x0)) (_ : ∀ n ∈ x0, (Lit.int .i64 n).wf = true) (l0 : x0.length ≤ maxLen) (h1 : Sl H v1 (ints x1)) (_ : ∀ n ∈ x1, (Lit.int .i64 n).wf = true) (l1 : x1.length ≤ maxLen) :
    ACall Try.prog 11 [v0, v1] H (.bool true) H :=
  ACallT.forget (F_laws_FnExactExchangePath_w (fu := 2000000) h0 h1 (law_ExchangePath l0 l1)) rfl fun u G q => ⟨q.2.1, q.1.pre⟩
end Go.Proofs.Ytdghlhdpcmemjaa.AL
