/- The law FnExactInsertPair over the heap that is handed in. No condition. -/
import Derived.Test.YtbckijeffiofdaaPBInsertPair
import Derived.Test.YtbckijeffiofdaaAL27
import Derived.Below
namespace Go.Proofs.Ytbckijeffiofdaa.AL
open Go
set_option linter.unusedVariables false
theorem FnExactInsertPair (H : AH) (v0_0 : Value) (x0_0 : List Int) (v0_1 : Value) (x0_1 : List Int) (x1 : Int) (v2_0 : Value) (x2_0 : List Int) (v2_1 : Value) (x2_1 : List Int) (h0_0 : Sl H v0_0 (ints x0_0)) (_ : ∀ n ∈ x0_0, (Lit.int .i64 n).wf = true) (l0_0 : x0_0.length ≤ maxLen) (h0_1 : Sl H v0_1 (ints x0_1)) (_ : ∀ n ∈ x0_1, (Lit.int .i64 n).wf = true) (l0_1 : x0_1.length ≤ maxLen) (w1 : (Lit.int .i64 x1).wf = true) (h2_0 : Sl H v2_0 (ints x2_0)) (_ : ∀ n ∈ x2_0, (Lit.int .i64 n).wf = true) (l2_0 : x2_0.length ≤ maxLen) (h2_1 : Sl H v2_1 (ints x2_1)) (_ : ∀ n ∈ x2_1, (Lit.int .i64 n).wf = true) (l2_1 : x2_1.length ≤ maxLen) :
    ACall Try.prog 9 [(Value.agg #[v0_0, v0_1]), (Value.int .i64 x1), (Value.agg #[v2_0, v2_1])] H (.bool true) H :=
  ACallT.forget (F_laws_FnExactInsertPair_w (fu := 2000000) h0_0 h0_1 h2_0 h2_1 (law_InsertPair l0_0 l0_1 w1 l2_0 l2_1)) rfl fun u G q => ⟨q.2.1, q.1.pre⟩
end Go.Proofs.Ytbckijeffiofdaa.AL
