/- Pairs: both checks answer the same. No condition. -/
import Derived.Test.YtogghgecmjnieaaGreatPA4
namespace Go.Proofs.YtogghgecmjnieaaGreat.AL
open Go Go.Proofs.YtogghgecmjnieaaGreat.Arch
set_option linter.unusedVariables false
set_option linter.unusedSimpArgs false
set_option maxRecDepth 100000
theorem mePair_eq {fu : Nat} {p q : List Int} (hp : p.length ≤ 4294967296) (hq : q.length ≤ 4294967296) (hf : p.length < fu) (hg : q.length < fu) : F_spec_mePair fu p q = some ((sysB p && sysB q) && decide (p.length = q.length)) := by
 unfold F_spec_mePair
 rw [ahGood_eq hp hf, bd_of]
 cases sysB p
 ·rfl
 ·rw [cond_true, ahGood_eq hq hg, bd_of]
  cases sysB q
  ·rfl
  ·rw [cond_true]
   simp [ieq_eq, llen]
   by_cases e : p.length = q.length
   ·simp [e]
   ·simp [e]; omega
theorem IsPair_eq {fu : Nat} {p q : List Int} (hp : p.length ≤ 4294967296) (hq : q.length ≤ 4294967296) (hf : p.length < fu) (hg : q.length < fu) : F_impl_IsPair fu p q = some ((sysB p && sysB q) && decide (p.length = q.length)) := by
 unfold F_impl_IsPair
 rw [IsSystem_eq hp hf, bd_of]
 cases sysB p
 ·rfl
 ·rw [cond_true, IsSystem_eq hq hg, bd_of]
  cases sysB q
  ·rfl
  ·rw [cond_true]
   simp [ieq_eq, llen]
   by_cases e : p.length = q.length
   ·simp [e]
   ·simp [e]; omega
end Go.Proofs.YtogghgecmjnieaaGreat.AL
