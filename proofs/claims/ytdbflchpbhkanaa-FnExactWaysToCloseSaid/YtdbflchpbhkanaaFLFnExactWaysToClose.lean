/- The law FnExactWaysToClose over the heap that is handed in. No condition. -/
import Derived.Test.YtdbflchpbhkanaaPE4
import Derived.Test.YtdbflchpbhkanaaALC
import Derived.Below
namespace Go.Proofs.Ytdbflchpbhkanaa.AL
open Go
set_option linter.unusedVariables false
theorem FnExactWaysToClose (H : AH) (v0_0 : Value) (x0_0 : List Int) (v0_1 : Value) (x0_1 : List Int) (x0_2 : Int) (x1 : Int) (x2 : Int) (h0_0 : Sl H v0_0 (ints x0_0)) (_ : ∀ n ∈ x0_0, (Lit.int .i64 n).wf = true) (l0_0 : x0_0.length ≤ maxLen) (h0_1 : Sl H v0_1 (ints x0_1)) (_ : ∀ n ∈ x0_1, (Lit.int .i64 n).wf = true) (l0_1 : x0_1.length ≤ maxLen) (w0_2 : (Lit.int .i64 x0_2).wf = true) (w1 : (Lit.int .i64 x1).wf = true) (w2 : (Lit.int .i64 x2).wf = true) :
    ACall Try.prog 5 [(Value.agg #[v0_0, v0_1, (Value.int .i64 x0_2)]), (Value.int .i64 x1), (Value.int .i64 x2)] H (.bool true) H :=
  ACallT.forget (F_laws_FnExactWaysToClose_w (fu := 200000000) h0_0 h0_1 (law_WaysToClose l0_0 l0_1 w0_2 w1 w2)) rfl fun u G q => ⟨q.2.1, q.1.pre⟩
end Go.Proofs.Ytdbflchpbhkanaa.AL
