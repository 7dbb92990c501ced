/- The law FnExactFarthestFrom over the heap that is handed in. No condition. -/
import Derived.Test.YtdghlhdpcmemjaaPFF
import Derived.Test.YtdghlhdpcmemjaaALC
import Derived.Below
namespace Go.Proofs.Ytdghlhdpcmemjaa.AL
open Go
set_option linter.unusedVariables false
theorem FnExactFarthestFrom (H : AH) (v0 : Value) (x0 : List Int) (h0 : Sl H v0 (ints x0)) (_ : ∀ n ∈ x0, (Lit.int .i64 n).wf = true) (l0 : x0.length ≤ maxLen) :
    ACall Try.prog 9 [v0] H (.bool true) H :=
  ACallT.forget (F_laws_FnExactFarthestFrom_w (fu := 2000000) h0 (law_FarthestFrom l0)) rfl fun u G q => ⟨q.2.1, q.1.pre⟩
end Go.Proofs.Ytdghlhdpcmemjaa.AL
