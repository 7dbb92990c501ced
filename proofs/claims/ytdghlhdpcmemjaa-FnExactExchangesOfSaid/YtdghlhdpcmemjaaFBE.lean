/- Systems and components, told on the abstract heap, as given contracts of the print. No condition. -/
import Derived.Test.YtdghlhdpcmemjaaFBD
namespace Go.Proofs.Ytdghlhdpcmemjaa.AL
open Go Go.RowKit
set_option linter.unusedVariables false
set_option linter.unusedSimpArgs false
def F_spec_ahGood (fu : Nat) (x0 : List Int) : Option (Bool) := if x0.length ≤ 4294967296 then some (sysB x0) else none
theorem F_spec_ahGood_w {fu : Nat} {H : AH} {v0 : Value} {x0 : List Int} {r : Bool} (hx0 : Sl H v0 (ints x0)) (hF : F_spec_ahGood fu x0 = some r) :
    ACallT Try.prog 53 [v0] H (fun u G => AgB (Fr H) H G ∧ u = (Value.bool r) ∧ Sep G (Fr H) []) := by
  unfold F_spec_ahGood at hF
  split at hF
  · rename_i h
    cases hF
    refine (ahGood H v0 x0 hx0 h).t.mono ?_
    rintro u G ⟨rfl, rfl⟩
    exact ⟨.refl _ _, rfl, .nil⟩
  · cases hF
def F_impl_IsSystem (fu : Nat) (x0 : List Int) : Option (Bool) := if x0.length ≤ 4294967296 then some (sysB x0) else none
theorem F_impl_IsSystem_w {fu : Nat} {H : AH} {v0 : Value} {x0 : List Int} {r : Bool} (hx0 : Sl H v0 (ints x0)) (hF : F_impl_IsSystem fu x0 = some r) :
    ACallT Try.prog 55 [v0] H (fun u G => AgB (Fr H) H G ∧ u = (Value.bool r) ∧ Sep G (Fr H) []) := by
  unfold F_impl_IsSystem at hF
  split at hF
  · rename_i h
    cases hF
    refine (IsSystem H v0 x0 hx0 h).t.mono ?_
    rintro u G ⟨rfl, rfl⟩
    exact ⟨.refl _ _, rfl, .nil⟩
  · cases hF
end Go.Proofs.Ytdghlhdpcmemjaa.AL
