/- The law FnMergedAndSplit over the heap that is handed in. No condition. -/
import Derived.Test.YtogghgecmjnieaaGreatPFM
import Derived.Test.YtogghgecmjnieaaGreatALC
import Derived.Below
namespace Go.Proofs.YtogghgecmjnieaaGreat.AL
open Go
set_option linter.unusedVariables false
theorem FnMergedAndSplit (H : AH) (v0 : Value) (x0 : List Int) (v1 : Value) (x1 : List Int) (h0 : Sl H v0 (u8s x0)) (w0 : ∀ n ∈ x0, (Lit.int .u8 n).wf = true) (l0 : x0.length ≤ maxLen) (h1 : Sl H v1 (u8s x1)) (w1 : ∀ n ∈ x1, (Lit.int .u8 n).wf = true) (l1 : x1.length ≤ maxLen) :
    ACall Tryz.prog 4 [v0, v1] H (.bool true) H :=
  ACallT.forget (F_laws_FnMergedAndSplit_w (fu := 2000000) h0 h1 (law_FnMergedAndSplit l0 w0 l1 w1)) rfl fun u G q => ⟨q.2.1, q.1.pre⟩
end Go.Proofs.YtogghgecmjnieaaGreat.AL
