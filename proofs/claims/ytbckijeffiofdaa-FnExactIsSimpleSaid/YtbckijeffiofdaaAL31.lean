/- AL, part 31: lists compared with nil. No condition. -/
import Derived.Test.YtbckijeffiofdaaAL30
namespace Go.Proofs.Ytbckijeffiofdaa.AL
open Go Go.RowKit
set_option linter.unusedVariables false
set_option linter.unusedSimpArgs false
section
variable {P : Program} {H : AH} {t e : TypeId} {v : Value} {cs : List Value}
theorem nil_tt (hu : P.underlying t = some (.slice e)) : aBin' P H .eql t (.slice none 0 0) (.slice none 0 0) = some (.bool true) := by
  simp [aBin', aBin, aliveS, hu, eqB]
theorem nil_ff (hu : P.underlying t = some (.slice e)) (h : Sl H v cs) (hn : v ≠ .slice none 0 0) : aBin' P H .eql t v (.slice none 0 0) = some (.bool false) := by
  rcases h with ⟨rfl, _⟩ | ⟨i, off, g, c, o, rfl, h2, _⟩
  · exact absurd rfl hn
  · simp [aBin', aBin, aliveS, h2, hu, eqB]
theorem nil_ne_tt (hu : P.underlying t = some (.slice e)) (h : Sl H v cs) (hn : v ≠ .slice none 0 0) : aBin' P H .neq t v (.slice none 0 0) = some (.bool true) := by
  rcases h with ⟨rfl, _⟩ | ⟨i, off, g, c, o, rfl, h2, _⟩
  · exact absurd rfl hn
  · simp [aBin', aBin, aliveS, h2, hu, eqB]
theorem nil_ne_ff (hu : P.underlying t = some (.slice e)) : aBin' P H .neq t (.slice none 0 0) (.slice none 0 0) = some (.bool false) := by
  simp [aBin', aBin, aliveS, hu, eqB]
end
end Go.Proofs.Ytbckijeffiofdaa.AL
