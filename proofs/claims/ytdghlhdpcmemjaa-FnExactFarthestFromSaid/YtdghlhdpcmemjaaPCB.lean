/- At most as many curves as arches. No condition. -/
import Derived.Test.YtdghlhdpcmemjaaPA4B
namespace Go.Proofs.Ytdghlhdpcmemjaa.AL
open Go Go.Proofs.Ytdghlhdpcmemjaa.Arch
set_option linter.unusedVariables false
set_option linter.unusedSimpArgs false
def opens (p : List Int) (k : Nat) : Nat := ((List.range k).filter fun i : Nat => decide ((i : Int) < gt p (i : Int))).length
section
variable {p q : List Int}
end
end Go.Proofs.Ytdghlhdpcmemjaa.AL
