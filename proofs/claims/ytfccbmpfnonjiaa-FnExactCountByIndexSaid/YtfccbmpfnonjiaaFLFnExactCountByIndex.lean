/- The law FnExactCountByIndex over the heap that is handed in. No condition. -/
import Derived.Test.YtfccbmpfnonjiaaPSL6
import Derived.Test.YtfccbmpfnonjiaaAL27
import Derived.Below
namespace Go.Proofs.Ytfccbmpfnonjiaa.AL
open Go
set_option linter.unusedVariables false
theorem FnExactCountByIndex (H : AH) (x0 : Int) (w0 : (Lit.int .i64 x0).wf = true) :
    ACall Try.prog 6 [(Value.int .i64 x0)] H (.bool true) H :=
  ACallT.forget (F_laws_FnExactCountByIndex_w (fu := 2000000)  (law_CountByIndex w0)) rfl fun u G q => ⟨q.2.1, q.1.pre⟩
end Go.Proofs.Ytfccbmpfnonjiaa.AL
