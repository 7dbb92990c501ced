/- Plain laws of pairs of lists: sizes, copies, comparisons, marks. No condition. -/
import Derived.Test.YtbckijeffiofdaaPA1
namespace Go.Proofs.Ytbckijeffiofdaa.AL
open Go
set_option linter.unusedVariables false
set_option linter.unusedSimpArgs false
variable {fu : Nat} {a b : List Int}
theorem eqMeander_eq (ha : a.length ≤ 1048576) (hb : b.length ≤ 1048576) (hf : 1048576 < fu) : F_laws_eqMeander fu a b a b = some true := by
  unfold F_laws_eqMeander
  simp [eqIntS_eq (fu := fu) (xs := a) (by omega) (by omega), eqIntS_eq (fu := fu) (xs := b) (by omega) (by omega), bnot]
end Go.Proofs.Ytbckijeffiofdaa.AL
