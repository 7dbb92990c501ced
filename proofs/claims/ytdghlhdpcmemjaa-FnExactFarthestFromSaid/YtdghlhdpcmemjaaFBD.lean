/- Distances and pairs of systems, told on the abstract heap, as given contracts of the print. No condition. -/
import Derived.Test.YtdghlhdpcmemjaaFB16
import Derived.Test.YtdghlhdpcmemjaaALC
namespace Go.Proofs.Ytdghlhdpcmemjaa.AL
open Go Go.RowKit
set_option linter.unusedVariables false
set_option linter.unusedSimpArgs false
def F_spec_exDistance (fu : Nat) (x0 : List Int) (x1 : List Int) : Option (Int) := if pairB x0 x1 = true then some (distV x0 x1) else none
theorem F_spec_exDistance_w {fu : Nat} {H : AH} {v0 : Value} {v1 : Value} {x0 : List Int} {x1 : List Int} {r : Int} (hx0 : Sl H v0 (ints x0)) (hx1 : Sl H v1 (ints x1)) (hF : F_spec_exDistance fu x0 x1 = some r) :
    ACallT Try.prog 58 [v0, v1] H (fun u G => AgB (Fr H) H G ∧ u = (Value.int .i64 r) ∧ Sep G (Fr H) []) := by
  unfold F_spec_exDistance at hF
  split at hF
  · rename_i h
    cases hF
    obtain ⟨h1, h2⟩ := pairB_two h
    refine (exDistance H v0 v1 x0 x1 hx0 hx1 h1 h2).t.mono ?_
    rintro u G ⟨rfl, rfl⟩
    exact ⟨.refl _ _, rfl, .nil⟩
  · cases hF
end Go.Proofs.Ytdghlhdpcmemjaa.AL
