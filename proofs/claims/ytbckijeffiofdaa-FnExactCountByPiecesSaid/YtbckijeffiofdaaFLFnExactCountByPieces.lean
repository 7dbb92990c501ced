/- The law FnExactCountByPieces over the heap that is handed in. No condition. -/
import Derived.Test.YtbckijeffiofdaaPC5
import Derived.Test.YtbckijeffiofdaaALC
import Derived.Below
namespace Go.Proofs.Ytbckijeffiofdaa.AL
open Go
set_option linter.unusedVariables false
theorem FnExactCountByPieces (H : AH) (x0 : Int) (w0 : (Lit.int .i64 x0).wf = true) :
    ACall Try.prog 16 [(Value.int .i64 x0)] H (.bool true) H :=
  ACallT.forget (F_laws_FnExactCountByPieces_w (fu := 2000000)  (law_CountByPieces w0)) rfl fun u G q => ⟨q.2.1, q.1.pre⟩
end Go.Proofs.Ytbckijeffiofdaa.AL
