/- The law FnExactMeandersByStates over the heap that is handed in. No condition. -/
import Derived.Test.YtdbflchpbhkanaaPE6
import Derived.Test.YtdbflchpbhkanaaALC
import Derived.Below
namespace Go.Proofs.Ytdbflchpbhkanaa.AL
open Go
set_option linter.unusedVariables false
theorem FnExactMeandersByStates (H : AH) (x0 : Int) (w0 : (Lit.int .i64 x0).wf = true) :
    ACall Try.prog 3 [(Value.int .i64 x0)] H (.bool true) H :=
  ACallT.forget (F_laws_FnExactMeandersByStates_w (fu := 200000000)  (law_MeandersByStates w0)) rfl fun u G q => ⟨q.2.1, q.1.pre⟩
end Go.Proofs.Ytdbflchpbhkanaa.AL
