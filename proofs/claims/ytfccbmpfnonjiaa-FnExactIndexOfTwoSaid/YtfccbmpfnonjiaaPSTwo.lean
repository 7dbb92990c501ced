/- Indices of seaweeds of two parts. No condition. -/
import Derived.Test.YtfccbmpfnonjiaaPSTwoK
import Derived.Test.YtfccbmpfnonjiaaPS1
namespace Go.Proofs.Ytfccbmpfnonjiaa.AL
open Go
set_option linter.unusedVariables false
set_option linter.unusedSimpArgs false
set_option maxRecDepth 100000
theorem two_no {x y : Int} (h : inW [x, y] = false) : F_spec_IndexOfTwo 2000000 x y = some (0, false) ∧ F_impl_IndexOfTwo 2000000 x y = some (0, false) := by
  unfold F_spec_IndexOfTwo F_impl_IndexOfTwo F_impl_indexFor
  rw [areParts_eq (by simp) (by omega), swParts_eq (by simp) (by omega), h, cond_false, bd_of, bd_of]
  exact ⟨rfl, rfl⟩
theorem law_IndexOfTwo {a b : Int} (w0 : (Lit.int .i64 a).wf = true) (w1 : (Lit.int .i64 b).wf = true) : F_laws_FnExactIndexOfTwo 2000000 a b = some true := by
  unfold F_laws_FnExactIndexOfTwo
  cases h : inW [a, b]
  · obtain ⟨e1, e2⟩ := two_no h
    rw [e1, e2]
    rfl
  · have h2 : twoQ a b = true := by
      simp [inW] at h
      exact two_at ⟨by omega, by omega⟩ ⟨by omega, by omega⟩
    unfold twoQ at h2
    split at h2
    · rename_i r s e1 e2
      rw [e1, e2]
      obtain ⟨r1, r2⟩ := r
      obtain ⟨s1, s2⟩ := s
      simp at h2
      obtain ⟨rfl, rfl⟩ := h2
      simp only [bd_of, ine_eq, bne_self_eq_false, cond_false]
      cases s2 <;> rfl
    · cases h2
end Go.Proofs.Ytfccbmpfnonjiaa.AL
