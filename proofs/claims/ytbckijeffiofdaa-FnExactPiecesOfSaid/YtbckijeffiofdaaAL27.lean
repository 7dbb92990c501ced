/- AL, part 27: what a call hands back plain, all else forgotten. No condition. -/
import Derived.Test.YtbckijeffiofdaaAL19
import Derived.Test.YtbckijeffiofdaaAL26
namespace Go.Proofs.Ytbckijeffiofdaa.AL
open Go Go.RowKit
set_option linter.unusedVariables false
theorem ACallT.forget {P : Program} {f : FuncId} {args : List Value} {H : AH} {v : Value} {Post : Value → AH → Prop} (h : ACallT P f args H Post) (hv : plainV v = true) (hp : ∀ u G, Post u G → u = v ∧ H <+: G) : ACall P f args H v H := by
  obtain ⟨u, G, c, q⟩ := h
  obtain ⟨rfl, hpre⟩ := hp u G q
  have key := ACallP.told (H1 := H) (news := []) (v := u) c.p (fun hw => by
    rw [List.append_nil]
    exact ⟨hw, R3_plain hv, Nat.le_refl _⟩) rfl (fun hw u' G' ⟨e1, e2⟩ => by
      subst e1 e2
      obtain ⟨L, rfl⟩ := hpre
      exact ⟨L, [], rfl, Canon.none H L hw, vr3_plain hv⟩)
  rwa [List.append_nil] at key
end Go.Proofs.Ytbckijeffiofdaa.AL
