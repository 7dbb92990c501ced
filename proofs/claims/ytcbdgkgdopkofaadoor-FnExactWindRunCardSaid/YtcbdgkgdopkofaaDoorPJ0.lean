/- What a seaweed is: the program's and the reference's are one. No condition. -/
import Derived.Test.YtcbdgkgdopkofaaDoorPS1
import Derived.Test.YtcbdgkgdopkofaaDoorPS2
namespace Go.Proofs.YtcbdgkgdopkofaaDoor.AL
open Go
set_option linter.unusedVariables false
set_option linter.unusedSimpArgs false
section
variable {fu : Nat}
theorem swSum_L {p : List Int} (hp : inW p = true) (hl : p.length ≤ 20) : ∀ (d k n : Nat) (s : Int), k + d = p.length → d < n → 0 ≤ s → s ≤ 20 * (k : Int) →
    F_spec_swSum_L1 fu p (p.length : Int) n s (k : Int) = some (s + (p.drop k).sum, (p.length : Int)) := by
  intro d
  induction d with
  | zero =>
    intro k n s hk hn h0 h1
    cases n with
    | zero => omega
    | succ n =>
      simp only [F_spec_swSum_L1]
      rw [ilt_f (by omega), cond_false, List.drop_of_length_le (by omega)]
      simp; omega
  | succ d ih =>
    intro k n s hk hn h0 h1
    cases n with
    | zero => omega
    | succ n =>
      have hk' : k < p.length := by omega
      have hm := List.all_eq_true.1 hp _ (List.getElem_mem hk')
      simp at hm
      simp only [F_spec_swSum_L1]
      rw [ilt_t (by omega), cond_true, gd_t (inL_nat hk'), gat_nat hk', iadd_id (by omega) (by omega), iadd_id (by omega) (by omega), show ((k : Int) + 1) = ((k + 1 : Nat) : Int) by omega,
        ih (k + 1) n _ (by omega) (by omega) (by omega) (by omega), List.drop_eq_getElem_cons hk', List.sum_cons, Int.add_assoc]
theorem swSum_eq {p : List Int} (hp : inW p = true) (hl : p.length ≤ 20) (hf : 20 < fu) : F_spec_swSum fu p = some p.sum := by
  unfold F_spec_swSum
  have := swSum_L (fu := fu) hp hl p.length 0 fu 0 (by omega) (by omega) (by omega) (by omega)
  rw [Int.natCast_zero] at this
  simp only [llen]
  rw [this, bd_of]
  simp
def partsB (p : List Int) : Bool := decide (p.length ≤ 20) && inW p && decide (p.sum ≤ 20)
theorem sParts_eq {p : List Int} (hf : 20 < fu) : F_spec_swParts fu p = some (partsB p) := by
  by_cases h : p.length ≤ 20
  · rw [swParts_eq h hf]
    unfold partsB
    rw [decide_eq_true h, Bool.true_and]
    cases h2 : inW p
    · rfl
    · rw [cond_true, swSum_eq h2 h hf, bd_of, ile_eq, Bool.true_and]
  · unfold F_spec_swParts
    rw [ilt_t (by simp only [llen]; omega), cond_true, bd_of, cond_true]
    simp [partsB, h]
theorem iParts_eq {p : List Int} (hf : 20 < fu) : F_impl_areParts fu p = some (partsB p) := by
  by_cases h : p.length ≤ 20
  · rw [areParts_eq h hf, sParts_eq hf]
  · unfold F_impl_areParts
    rw [ile_f (by simp only [llen]; omega), cond_false]
    simp [partsB, h]
def weedB (p q : List Int) : Bool := partsB p && partsB q && decide (p.sum = q.sum)
theorem partsB_in {p : List Int} (h : partsB p = true) : inW p = true ∧ p.length ≤ 20 ∧ p.sum ≤ 20 := by
  simp [partsB] at h
  exact ⟨h.1.2, h.1.1, h.2⟩
theorem swGood_eq {p q : List Int} (hf : 20 < fu) : F_spec_swGood fu p q = some (weedB p q) := by
  unfold F_spec_swGood
  rw [sParts_eq hf, sParts_eq hf, bd_of]
  unfold weedB
  cases h1 : partsB p
  · rfl
  · rw [cond_true, bd_of]
    cases h2 : partsB q
    · rfl
    · rw [cond_true, swSum_eq (partsB_in h1).1 (partsB_in h1).2.1 hf, swSum_eq (partsB_in h2).1 (partsB_in h2).2.1 hf, bd_of, bd_of, ieq_eq]
      simp only [Bool.true_and, Option.some.injEq]
      by_cases e : p.sum = q.sum <;> simp [e]
theorem isWeed_eq {p q : List Int} (hf : 20 < fu) : F_impl_IsSeaweed fu p q = some (weedB p q) := by
  rw [← swGood_eq (fu := fu) hf]
  unfold F_impl_IsSeaweed F_spec_swGood
  rw [iParts_eq hf, sParts_eq hf, iParts_eq hf, sParts_eq hf, sum_eq, sum_eq]
theorem weed_parts {p q : List Int} (h : weedB p q = true) : (inW p = true ∧ p.length ≤ 20 ∧ p.sum ≤ 20) ∧ (inW q = true ∧ q.length ≤ 20 ∧ q.sum ≤ 20) ∧ p.sum = q.sum := by
  simp only [weedB, Bool.and_eq_true, decide_eq_true_eq] at h
  exact ⟨partsB_in h.1.1, partsB_in h.1.2, h.2⟩
end
end Go.Proofs.YtcbdgkgdopkofaaDoor.AL
