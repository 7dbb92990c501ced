/- The law FnExactCountShortest over the heap that is handed in. No condition. -/
import Derived.Test.YtjgnpkedkjbmcaaPWL
import Derived.Test.YtjgnpkedkjbmcaaALC
import Derived.Below
namespace Go.Proofs.Ytjgnpkedkjbmcaa.AL
open Go
set_option linter.unusedVariables false
theorem FnExactCountShortest (H : AH) (v0 : Value) (x0 : List Int) (v1 : Value) (x1 : List Int) (h0 : Sl H v0 (ints x0)) (_ : ∀ n ∈ x0, (Lit.int .i64 n).wf = true) (l0 : x0.length ≤ maxLen) (h1 : Sl H v1 (ints x1)) (_ : ∀ n ∈ x1, (Lit.int .i64 n).wf = true) (l1 : x1.length ≤ maxLen) :
    ACall Try.prog 3 [v0, v1] H (.bool true) H :=
  ACallT.forget (F_laws_FnExactCountShortest_w (fu := 2000000) h0 h1 (law_CountShortest l0 l1)) rfl fun u G q => ⟨q.2.1, q.1.pre⟩
end Go.Proofs.Ytjgnpkedkjbmcaa.AL
