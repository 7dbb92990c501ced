/- The law of ways to close. No condition. -/
import Derived.Test.YtdbflchpbhkanaaPE3
import Derived.Test.YtdbflchpbhkanaaG7
namespace Go.Proofs.Ytdbflchpbhkanaa.AL
open Go
set_option linter.unusedVariables false
set_option linter.unusedSimpArgs false
section
variable {fu : Nat} {u d : List Int} {c : Int}
theorem bne_self (b : Bool) : bne' b b = false := by cases b <;> rfl
end
end Go.Proofs.Ytdbflchpbhkanaa.AL
