/- What the draws of this law answer. No condition. -/
import Derived.Test.YtbckijeffiofdaaPDS
import Derived.Test.YtbckijeffiofdaaG1
import Derived.Test.YtbckijeffiofdaaG2
import Derived.Test.YtbckijeffiofdaaG3
import Derived.Test.YtbckijeffiofdaaG4
import Derived.Test.YtbckijeffiofdaaG5
import Derived.Test.YtbckijeffiofdaaG6
import Derived.Test.YtbckijeffiofdaaG7
import Derived.Test.YtbckijeffiofdaaG8
import Derived.Test.YtbckijeffiofdaaG9
import Derived.Test.YtbckijeffiofdaaG10
import Derived.Test.YtbckijeffiofdaaG11
import Derived.Test.YtbckijeffiofdaaG12
import Derived.Test.YtbckijeffiofdaaG13
import Derived.Test.YtbckijeffiofdaaG14
import Derived.Test.YtbckijeffiofdaaG15
import Derived.Test.YtbckijeffiofdaaG16
import Derived.Test.YtbckijeffiofdaaG17
import Derived.Test.YtbckijeffiofdaaG18
import Derived.Test.YtbckijeffiofdaaG19
import Derived.KernelRfl
namespace Go.Proofs.Ytbckijeffiofdaa.AL
open Go Go.Proofs.Ytbckijeffiofdaa.Arch
set_option linter.unusedVariables false
set_option linter.unusedSimpArgs false
set_option maxRecDepth 100000
section
variable {fu : Nat} {x : List Int}
theorem drawStretches_ok (w : Bytes x) (hf : 100000 < fu) : ∃ (p q : List Int), F_spec_DrawClosedStretches fu x = some (p, q) ∧ Brief (p, q) := by
  unfold F_spec_DrawClosedStretches
  obtain ⟨b, a1, s1, e1, g0, g1, hb⟩ := patched_ok (fu := fu) w (by omega)
  rw [e1, bd_of]
  exact ⟨b.1, b.2, rfl, hb⟩
end
end Go.Proofs.Ytbckijeffiofdaa.AL
