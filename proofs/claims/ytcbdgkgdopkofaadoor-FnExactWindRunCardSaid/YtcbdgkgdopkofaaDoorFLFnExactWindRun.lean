/- The law FnExactWindRun over the heap that is handed in. No condition. -/
import Derived.Test.YtcbdgkgdopkofaaDoorPJ6
import Derived.Test.YtcbdgkgdopkofaaDoorALC
import Derived.Below
namespace Go.Proofs.YtcbdgkgdopkofaaDoor.AL
open Go
set_option linter.unusedVariables false
theorem FnExactWindRun (H : AH) (v0_0 : Value) (x0_0 : List Int) (v0_1 : Value) (x0_1 : List Int) (h0_0 : Sl H v0_0 (ints x0_0)) (_ : ∀ n ∈ x0_0, (Lit.int .i64 n).wf = true) (l0_0 : x0_0.length ≤ maxLen) (h0_1 : Sl H v0_1 (ints x0_1)) (_ : ∀ n ∈ x0_1, (Lit.int .i64 n).wf = true) (l0_1 : x0_1.length ≤ maxLen) :
    ACall Tryd.prog 4 [(Value.agg #[v0_0, v0_1])] H (.bool true) H :=
  ACallT.forget (F_laws_FnExactWindRun_w (fu := 2000000) h0_0 h0_1 (law_WindRun l0_0 l0_1)) rfl fun u G q => ⟨q.2.1, q.1.pre⟩
end Go.Proofs.YtcbdgkgdopkofaaDoor.AL
