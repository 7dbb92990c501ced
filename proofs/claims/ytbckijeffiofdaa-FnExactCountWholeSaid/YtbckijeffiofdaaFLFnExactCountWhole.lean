/- The law FnExactCountWhole over the heap that is handed in. No condition. -/
import Derived.Test.YtbckijeffiofdaaPC6
import Derived.Test.YtbckijeffiofdaaALC
import Derived.Below
namespace Go.Proofs.Ytbckijeffiofdaa.AL
open Go
set_option linter.unusedVariables false
theorem FnExactCountWhole (H : AH) (x0 : Int) (w0 : (Lit.int .i64 x0).wf = true) :
    ACall Try.prog 13 [(Value.int .i64 x0)] H (.bool true) H :=
  ACallT.forget (F_laws_FnExactCountWhole_w (fu := 2000000)  (law_CountWhole w0)) rfl fun u G q => ⟨q.2.1, q.1.pre⟩
end Go.Proofs.Ytbckijeffiofdaa.AL
