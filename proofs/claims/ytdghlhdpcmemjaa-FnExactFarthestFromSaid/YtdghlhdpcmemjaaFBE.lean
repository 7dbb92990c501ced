/- Systems and components, told on the abstract heap, as given contracts of the print. No condition. -/
import Derived.Test.YtdghlhdpcmemjaaFBD
namespace Go.Proofs.Ytdghlhdpcmemjaa.AL
open Go Go.RowKit
set_option linter.unusedVariables false
set_option linter.unusedSimpArgs false
def F_spec_ahGood (fu : Nat) (x0 : List Int) : Option (Bool) := if x0.length ≤ 4294967296 then some (sysB x0) else none
theorem F_spec_ahGood_w {fu : Nat} {H : AH} {v0 : Value} {x0 : List Int} {r : Bool} (hx0 : Sl H v0 (ints x0)) (hF : F_spec_ahGood fu x0 = some r) :
    ACallT Try.prog 53 [v0] H (fun u G => AgB (Fr H) H G ∧ u = (Value.bool r) ∧ Sep G (Fr H) []) := by
  unfold F_spec_ahGood at hF
  split at hF
  · rename_i h
    cases hF
    refine (ahGood H v0 x0 hx0 h).t.mono ?_
    rintro u G ⟨rfl, rfl⟩
    exact ⟨.refl _ _, rfl, .nil⟩
  · cases hF
def F_impl_IsSystem (fu : Nat) (x0 : List Int) : Option (Bool) := if x0.length ≤ 4294967296 then some (sysB x0) else none
theorem F_impl_IsSystem_w {fu : Nat} {H : AH} {v0 : Value} {x0 : List Int} {r : Bool} (hx0 : Sl H v0 (ints x0)) (hF : F_impl_IsSystem fu x0 = some r) :
    ACallT Try.prog 55 [v0] H (fun u G => AgB (Fr H) H G ∧ u = (Value.bool r) ∧ Sep G (Fr H) []) := by
  unfold F_impl_IsSystem at hF
  split at hF
  · rename_i h
    cases hF
    refine (IsSystem H v0 x0 hx0 h).t.mono ?_
    rintro u G ⟨rfl, rfl⟩
    exact ⟨.refl _ _, rfl, .nil⟩
  · cases hF
def F_impl_Meander_components (fu : Nat) (x0_0 : List Int) (x0_1 : List Int) : Option (Int) := if pairB x0_0 x0_1 = true then some ((colTo x0_0 x0_1 x0_0.length).2 : Nat) else none
theorem F_impl_Meander_components_w {fu : Nat} {H : AH} {v0_0 : Value} {v0_1 : Value} {x0_0 : List Int} {x0_1 : List Int} {r : Int} (hx0_0 : Sl H v0_0 (ints x0_0)) (hx0_1 : Sl H v0_1 (ints x0_1)) (hF : F_impl_Meander_components fu x0_0 x0_1 = some r) :
    ACallT Try.prog 65 [(Value.agg #[v0_0, v0_1])] H (fun u G => AgB (Fr H) H G ∧ u = (Value.int .i64 r) ∧ Sep G (Fr H) []) := by
  unfold F_impl_Meander_components at hF
  split at hF
  · rename_i h
    cases hF
    obtain ⟨h1, h2⟩ := pairB_two h
    refine (components H v0_0 v0_1 x0_0 x0_1 hx0_0 hx0_1 h1 h2).t.mono ?_
    rintro u G ⟨rfl, rfl⟩
    exact ⟨.refl _ _, rfl, .nil⟩
  · cases hF
end Go.Proofs.Ytdghlhdpcmemjaa.AL
