/- Pieces: the program's and the reference's are one. No condition. -/
import Derived.Test.YtbckijeffiofdaaPC2
namespace Go.Proofs.Ytbckijeffiofdaa.AL
open Go Go.Proofs.Ytbckijeffiofdaa.Arch
set_option linter.unusedVariables false
set_option linter.unusedSimpArgs false
section
variable {fu : Nat} {p q : List Int} {b : Bool}
theorem in2 (a c : Int) : inL [a, c] 1 ∧ inL [a, c] 0 := ⟨⟨by omega, by simp⟩, ⟨by omega, by simp⟩⟩
theorem gat2 (a c : Int) : gat 0 [a, c] 1 = c ∧ gat 0 [a, c] 0 = a := ⟨by simp [gat_eq], by simp [gat_eq]⟩
end
end Go.Proofs.Ytbckijeffiofdaa.AL
