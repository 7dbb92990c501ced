/- The laws IndexOf, CountBoth, CyclesOf and PathsOf hold. No condition. -/
import Derived.Test.YtfccbmpfnonjiaaPSL4
namespace Go.Proofs.Ytfccbmpfnonjiaa.AL
open Go
set_option linter.unusedVariables false
set_option linter.unusedSimpArgs false
set_option maxRecDepth 100000
theorem law_IndexOf {a b : List Int} (ha : a.length ≤ 9223372036854775807) (hb : b.length ≤ 9223372036854775807) : F_laws_FnExactIndexOf 2000000 a b = some true := by
  unfold F_laws_FnExactIndexOf
  rw [szSeaweed_eq (by omega) (by omega) ha hb, bd_of]
  by_cases h1 : (a.length : Int) + (b.length : Int) ≤ 1048576
  · rw [if_pos h1, ilt_f (by omega), cond_false]
    have t1 := toSeaweed_eq (fu := 2000000) (a := a) (b := b) (by omega) (by omega) (by omega)
    have q1 := eqSeaweed_eq (fu := 2000000) (a := a) (b := b) (by omega) (by omega) (by omega)
    have e : ∃ S, F_spec_IndexOf 2000000 a b = some S ∧ F_impl_IndexOf 2000000 a b = some S := by
      unfold F_spec_IndexOf F_impl_IndexOf
      rw [swGood_eq (by omega), isWeed_eq (by omega), bd_of, bd_of]
      cases h : weedB a b
      · exact ⟨_, rfl, rfl⟩
      · simp only [bnot, Bool.not_true, cond_false, iIndex h (show 100000 < 2000000 by omega), sIndex h (show 100000 < 2000000 by omega), bd_of]
        exact ⟨_, rfl, rfl⟩
    obtain ⟨S, e1, e2⟩ := e
    simp [t1, q1, e1, e2, bnot, bne', ine_eq]
  · rw [if_neg h1, ilt_t (by omega), cond_true]
theorem law_CountBoth {a b : List Int} (ha : a.length ≤ 9223372036854775807) (hb : b.length ≤ 9223372036854775807) : F_laws_FnExactCountBoth 2000000 a b = some true := by
  unfold F_laws_FnExactCountBoth
  rw [szSeaweed_eq (by omega) (by omega) ha hb, bd_of]
  by_cases h1 : (a.length : Int) + (b.length : Int) ≤ 1048576
  · rw [if_pos h1, ilt_f (by omega), cond_false]
    have t1 := toSeaweed_eq (fu := 2000000) (a := a) (b := b) (by omega) (by omega) (by omega)
    have q1 := eqSeaweed_eq (fu := 2000000) (a := a) (b := b) (by omega) (by omega) (by omega)
    have e : ∃ S, F_spec_CountBoth 2000000 a b = some S ∧ F_impl_CountBoth 2000000 a b = some S := by
      unfold F_spec_CountBoth F_impl_CountBoth
      rw [swGood_eq (by omega), isWeed_eq (by omega), bd_of, bd_of]
      cases h : weedB a b
      · exact ⟨_, rfl, rfl⟩
      · simp only [bnot, Bool.not_true, cond_false, iGroups h (show 100000 < 2000000 by omega), sGroups h (show 100000 < 2000000 by omega), bd_of]
        exact ⟨_, rfl, rfl⟩
    obtain ⟨S, e1, e2⟩ := e
    simp [t1, q1, e1, e2, bnot, bne', ine_eq]
  · rw [if_neg h1, ilt_t (by omega), cond_true]
theorem law_CyclesOf {a b : List Int} (ha : a.length ≤ 9223372036854775807) (hb : b.length ≤ 9223372036854775807) : F_laws_FnExactCyclesOf 2000000 a b = some true := by
  unfold F_laws_FnExactCyclesOf
  rw [szSeaweed_eq (by omega) (by omega) ha hb, bd_of]
  by_cases h1 : (a.length : Int) + (b.length : Int) ≤ 1048576
  · rw [if_pos h1, ilt_f (by omega), cond_false]
    have t1 := toSeaweed_eq (fu := 2000000) (a := a) (b := b) (by omega) (by omega) (by omega)
    have q1 := eqSeaweed_eq (fu := 2000000) (a := a) (b := b) (by omega) (by omega) (by omega)
    have e : ∃ S : List (List Int) × Bool, F_spec_CyclesOf 2000000 a b = some S ∧ F_impl_CyclesOf 2000000 a b = some S ∧ S.1.length ≤ 20 ∧ ∀ r ∈ S.1, r.length ≤ 20 := by
      unfold F_spec_CyclesOf F_impl_CyclesOf
      rw [swGood_eq (by omega), isWeed_eq (by omega), bd_of, bd_of]
      cases h : weedB a b
      · exact ⟨([], false), rfl, rfl, by simp, by simp⟩
      · simp only [bnot, Bool.not_true, cond_false, iGroups h (show 100000 < 2000000 by omega), sGroups h (show 100000 < 2000000 by omega), bd_of]
        have := grps_len h
        exact ⟨_, rfl, rfl, by simp only; omega, grps_rows h⟩
    obtain ⟨S, e1, e2, l1, l2⟩ := e
    have hc := cellsN_le l2
    have l3 : ∀ r ∈ S.1, r.length ≤ 1048576 := fun r hr => by
      have := l2 r hr
      omega
    have m0 := markSeaweed_eq (fu := 2000000) (a := a) (b := b) (m := 1) (by omega) (by omega) (by omega) (by omega) (by omega)
    have m1 := markSS_eq (fu := 2000000) (rs := S.1) (m := 1) (by omega) (by omega) (by omega) (by omega) l3
    have h3 := heldSS_eq (fu := 2000000) (rs := S.1) (m := 1) (by omega) (by omega) (by omega) (by omega) l3
    have q2 := eqSS_eq (fu := 2000000) (rs := S.1) (by omega) (by omega) l3
    have n1 : ilt (1 + (a.length : Int) + (b.length : Int)) 0 = false := ilt_f (by omega)
    have n2 : ilt (1 + (cellsN S.1 : Int)) 0 = false := ilt_f (by omega)
    simp [t1, q1, q2, m0, m1, h3, e1, e2, n1, n2, bnot, bne', ine_eq]
  · rw [if_neg h1, ilt_t (by omega), cond_true]
theorem law_PathsOf {a b : List Int} (ha : a.length ≤ 9223372036854775807) (hb : b.length ≤ 9223372036854775807) : F_laws_FnExactPathsOf 2000000 a b = some true := by
  unfold F_laws_FnExactPathsOf
  rw [szSeaweed_eq (by omega) (by omega) ha hb, bd_of]
  by_cases h1 : (a.length : Int) + (b.length : Int) ≤ 1048576
  · rw [if_pos h1, ilt_f (by omega), cond_false]
    have t1 := toSeaweed_eq (fu := 2000000) (a := a) (b := b) (by omega) (by omega) (by omega)
    have q1 := eqSeaweed_eq (fu := 2000000) (a := a) (b := b) (by omega) (by omega) (by omega)
    have e : ∃ S : List (List Int) × Bool, F_spec_PathsOf 2000000 a b = some S ∧ F_impl_PathsOf 2000000 a b = some S ∧ S.1.length ≤ 20 ∧ ∀ r ∈ S.1, r.length ≤ 20 := by
      unfold F_spec_PathsOf F_impl_PathsOf
      rw [swGood_eq (by omega), isWeed_eq (by omega), bd_of, bd_of]
      cases h : weedB a b
      · exact ⟨([], false), rfl, rfl, by simp, by simp⟩
      · simp only [bnot, Bool.not_true, cond_false, iGroups h (show 100000 < 2000000 by omega), sGroups h (show 100000 < 2000000 by omega), bd_of]
        have := grps_len h
        exact ⟨_, rfl, rfl, by simp only; omega, grps_rows h⟩
    obtain ⟨S, e1, e2, l1, l2⟩ := e
    have hc := cellsN_le l2
    have l3 : ∀ r ∈ S.1, r.length ≤ 1048576 := fun r hr => by
      have := l2 r hr
      omega
    have m0 := markSeaweed_eq (fu := 2000000) (a := a) (b := b) (m := 1) (by omega) (by omega) (by omega) (by omega) (by omega)
    have m1 := markSS_eq (fu := 2000000) (rs := S.1) (m := 1) (by omega) (by omega) (by omega) (by omega) l3
    have h3 := heldSS_eq (fu := 2000000) (rs := S.1) (m := 1) (by omega) (by omega) (by omega) (by omega) l3
    have q2 := eqSS_eq (fu := 2000000) (rs := S.1) (by omega) (by omega) l3
    have n1 : ilt (1 + (a.length : Int) + (b.length : Int)) 0 = false := ilt_f (by omega)
    have n2 : ilt (1 + (cellsN S.1 : Int)) 0 = false := ilt_f (by omega)
    simp [t1, q1, q2, m0, m1, h3, e1, e2, n1, n2, bnot, bne', ine_eq]
  · rw [if_neg h1, ilt_t (by omega), cond_true]
end Go.Proofs.Ytfccbmpfnonjiaa.AL
