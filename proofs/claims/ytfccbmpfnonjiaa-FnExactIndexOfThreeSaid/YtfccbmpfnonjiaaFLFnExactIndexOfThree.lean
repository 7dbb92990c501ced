/- The law FnExactIndexOfThree over the heap that is handed in. No condition. -/
import Derived.Test.YtfccbmpfnonjiaaPSThr
import Derived.Test.YtfccbmpfnonjiaaAL27
import Derived.Below
namespace Go.Proofs.Ytfccbmpfnonjiaa.AL
open Go
set_option linter.unusedVariables false
theorem FnExactIndexOfThree (H : AH) (x0 : Int) (x1 : Int) (x2 : Int) (w0 : (Lit.int .i64 x0).wf = true) (w1 : (Lit.int .i64 x1).wf = true) (w2 : (Lit.int .i64 x2).wf = true) :
    ACall Try.prog 4 [(Value.int .i64 x0), (Value.int .i64 x1), (Value.int .i64 x2)] H (.bool true) H :=
  ACallT.forget (F_laws_FnExactIndexOfThree_w (fu := 2000000)  (law_IndexOfThree w0 w1 w2)) rfl fun u G q => ⟨q.2.1, q.1.pre⟩
end Go.Proofs.Ytfccbmpfnonjiaa.AL
