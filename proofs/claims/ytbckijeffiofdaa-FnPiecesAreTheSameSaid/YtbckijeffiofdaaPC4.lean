/- Lists of pairs compared and marked; the laws IsSimple, PiecesOf and PiecesBack hold. No condition. -/
import Derived.Test.YtbckijeffiofdaaPC3
namespace Go.Proofs.Ytbckijeffiofdaa.AL
open Go Go.Proofs.Ytbckijeffiofdaa.Arch
set_option linter.unusedVariables false
set_option linter.unusedSimpArgs false
set_option maxRecDepth 100000
section
variable {fu : Nat}
variable {p q : List Int}
theorem cut_eq (hp : p.length ≤ 1048576) (hq : q.length ≤ 1048576) (hf : 1048576 < fu) :
    F_impl_isCut fu p q = some ((sysB p && sysB q) && decide (p.length = q.length) && decide (0 < p.length)) ∧
    (bd (F_spec_mePair fu p q) fun r1 => bif (bnot r1) then some true else some (ieq (llen p) 0)) = some (!((sysB p && sysB q) && decide (p.length = q.length) && decide (0 < p.length))) := by
  constructor
  · unfold F_impl_isCut
    rw [IsPair_eq (by omega) (by omega) (by omega) (by omega), bd_of]
    cases ((sysB p && sysB q) && decide (p.length = q.length))
    · rfl
    · rw [cond_true, ilt_eq]
      simp only [Bool.true_and, llen, Option.some.injEq]
      by_cases h : 0 < p.length <;> simp [h]
  · rw [mePair_eq (by omega) (by omega) (by omega) (by omega), bd_of]
    cases ((sysB p && sysB q) && decide (p.length = q.length))
    · rfl
    · rw [show bnot true = false from rfl, cond_false, ieq_eq]
      simp only [llen, Bool.true_and, Option.some.injEq]
      rw [show ((p.length : Int) == 0) = decide (p.length = 0) by rw [Bool.eq_iff_iff]; simp]
      by_cases h : p.length = 0
      · rw [h]; rfl
      · have h2 : 0 < p.length := by omega
        rw [decide_eq_false h, decide_eq_true h2]; rfl
end
end Go.Proofs.Ytbckijeffiofdaa.AL
