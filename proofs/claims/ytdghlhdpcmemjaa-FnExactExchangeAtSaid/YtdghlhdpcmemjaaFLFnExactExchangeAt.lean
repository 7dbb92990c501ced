/- The law FnExactExchangeAt over the heap that is handed in. No condition. -/
import Derived.Test.YtdghlhdpcmemjaaPXL
import Derived.Test.YtdghlhdpcmemjaaALC
import Derived.Below
namespace Go.Proofs.Ytdghlhdpcmemjaa.AL
open Go
set_option linter.unusedVariables false
theorem FnExactExchangeAt (H : AH) (v0 : Value) (x0 : List Int) (x1 : Int) (x2 : Int) (h0 : Sl H v0 (ints x0)) (_ : ∀ n ∈ x0, (Lit.int .i64 n).wf = true) (l0 : x0.length ≤ maxLen) (w1 : (Lit.int .i64 x1).wf = true) (w2 : (Lit.int .i64 x2).wf = true) :
    ACall Try.prog 7 [v0, (Value.int .i64 x1), (Value.int .i64 x2)] H (.bool true) H :=
  ACallT.forget (F_laws_FnExactExchangeAt_w (fu := 2000000) h0 (law_ExchangeAt l0 w1 w2)) rfl fun u G q => ⟨q.2.1, q.1.pre⟩
end Go.Proofs.Ytdghlhdpcmemjaa.AL
