/- The laws' own lists: copies and marks. No condition. -/
import Derived.Test.YtdghlhdpcmemjaaFB1
namespace Go.Proofs.Ytdghlhdpcmemjaa.AL
open Go
attribute [local simp] aBin' aBin aBinI aUn aNil flatV
set_option linter.unusedVariables false
set_option linter.unusedSimpArgs false

def seqI (n : Int) (k : Nat) : List Int := (List.range k).map fun j => n + (j : Nat)
@[simp] theorem seqI_len {n : Int} {k : Nat} : (seqI n k).length = k := by simp [seqI]
end Go.Proofs.Ytdghlhdpcmemjaa.AL
