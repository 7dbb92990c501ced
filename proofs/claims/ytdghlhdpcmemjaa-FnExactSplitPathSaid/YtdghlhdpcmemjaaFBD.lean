/- Distances and pairs of systems, told on the abstract heap, as given contracts of the print. No condition. -/
import Derived.Test.YtdghlhdpcmemjaaFB16
import Derived.Test.YtdghlhdpcmemjaaALC
namespace Go.Proofs.Ytdghlhdpcmemjaa.AL
open Go Go.RowKit
set_option linter.unusedVariables false
set_option linter.unusedSimpArgs false
def F_impl_IsPair (fu : Nat) (x0_0 : List Int) (x0_1 : List Int) : Option (Bool) := if x0_0.length ≤ 4294967296 ∧ x0_1.length ≤ 4294967296 then some (pairB x0_0 x0_1) else none
theorem F_impl_IsPair_w {fu : Nat} {H : AH} {v0_0 : Value} {v0_1 : Value} {x0_0 : List Int} {x0_1 : List Int} {r : Bool} (hx0_0 : Sl H v0_0 (ints x0_0)) (hx0_1 : Sl H v0_1 (ints x0_1)) (hF : F_impl_IsPair fu x0_0 x0_1 = some r) :
    ACallT Try.prog 59 [(Value.agg #[v0_0, v0_1])] H (fun u G => AgB (Fr H) H G ∧ u = (Value.bool r) ∧ Sep G (Fr H) []) := by
  unfold F_impl_IsPair at hF
  split at hF
  · rename_i h
    cases hF
    refine (IsPair H v0_0 v0_1 x0_0 x0_1 hx0_0 hx0_1 h.1 h.2).t.mono ?_
    rintro u G ⟨rfl, rfl⟩
    exact ⟨.refl _ _, rfl, .nil⟩
  · cases hF
end Go.Proofs.Ytdghlhdpcmemjaa.AL
