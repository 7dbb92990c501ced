/- What a seaweed is, its groups and its index: the program's and the reference's are one; rows of rows marked. No condition. -/
import Derived.Test.YtigpmjebldgekaaPSL3
namespace Go.Proofs.Ytigpmjebldgekaa.AL
open Go
set_option linter.unusedVariables false
set_option linter.unusedSimpArgs false
section
variable {fu : Nat}
theorem swSum_L {p : List Int} (hp : inW p = true) (hl : p.length ≤ 20) : ∀ (d k n : Nat) (s : Int), k + d = p.length → d < n → 0 ≤ s → s ≤ 20 * (k : Int) →
    F_spec_swSum_L1 fu p (p.length : Int) n s (k : Int) = some (s + (p.drop k).sum, (p.length : Int)) := by
  intro d
  induction d with
  | zero =>
    intro k n s hk hn h0 h1
    cases n with
    | zero => omega
    | succ n =>
      simp only [F_spec_swSum_L1]
      rw [ilt_f (by omega), cond_false, List.drop_of_length_le (by omega)]
      simp; omega
  | succ d ih =>
    intro k n s hk hn h0 h1
    cases n with
    | zero => omega
    | succ n =>
      have hk' : k < p.length := by omega
      have hm := List.all_eq_true.1 hp _ (List.getElem_mem hk')
      simp at hm
      simp only [F_spec_swSum_L1]
      rw [ilt_t (by omega), cond_true, gd_t (inL_nat hk'), gat_nat hk', iadd_id (by omega) (by omega), iadd_id (by omega) (by omega), show ((k : Int) + 1) = ((k + 1 : Nat) : Int) by omega,
        ih (k + 1) n _ (by omega) (by omega) (by omega) (by omega), List.drop_eq_getElem_cons hk', List.sum_cons, Int.add_assoc]
theorem swSum_eq {p : List Int} (hp : inW p = true) (hl : p.length ≤ 20) (hf : 20 < fu) : F_spec_swSum fu p = some p.sum := by
  unfold F_spec_swSum
  have := swSum_L (fu := fu) hp hl p.length 0 fu 0 (by omega) (by omega) (by omega) (by omega)
  rw [Int.natCast_zero] at this
  simp only [llen]
  rw [this, bd_of]
  simp
def partsB (p : List Int) : Bool := decide (p.length ≤ 20) && inW p && decide (p.sum ≤ 20)
theorem sParts_eq {p : List Int} (hf : 20 < fu) : F_spec_swParts fu p = some (partsB p) := by
  by_cases h : p.length ≤ 20
  · rw [swParts_eq h hf]
    unfold partsB
    rw [decide_eq_true h, Bool.true_and]
    cases h2 : inW p
    · rfl
    · rw [cond_true, swSum_eq h2 h hf, bd_of, ile_eq, Bool.true_and]
  · unfold F_spec_swParts
    rw [ilt_t (by simp only [llen]; omega), cond_true, bd_of, cond_true]
    simp [partsB, h]
theorem iParts_eq {p : List Int} (hf : 20 < fu) : F_impl_areParts fu p = some (partsB p) := by
  by_cases h : p.length ≤ 20
  · rw [areParts_eq h hf, sParts_eq hf]
  · unfold F_impl_areParts
    rw [ile_f (by simp only [llen]; omega), cond_false]
    simp [partsB, h]
def weedB (p q : List Int) : Bool := partsB p && partsB q && decide (p.sum = q.sum)
theorem partsB_in {p : List Int} (h : partsB p = true) : inW p = true ∧ p.length ≤ 20 ∧ p.sum ≤ 20 := by
  simp [partsB] at h
  exact ⟨h.1.2, h.1.1, h.2⟩
theorem swGood_eq {p q : List Int} (hf : 20 < fu) : F_spec_swGood fu p q = some (weedB p q) := by
  unfold F_spec_swGood
  rw [sParts_eq hf, sParts_eq hf, bd_of]
  unfold weedB
  cases h1 : partsB p
  · rfl
  · rw [cond_true, bd_of]
    cases h2 : partsB q
    · rfl
    · rw [cond_true, swSum_eq (partsB_in h1).1 (partsB_in h1).2.1 hf, swSum_eq (partsB_in h2).1 (partsB_in h2).2.1 hf, bd_of, bd_of, ieq_eq]
      simp only [Bool.true_and, Option.some.injEq]
      by_cases e : p.sum = q.sum <;> simp [e]
theorem isWeed_eq {p q : List Int} (hf : 20 < fu) : F_impl_IsSeaweed fu p q = some (weedB p q) := by
  rw [← swGood_eq (fu := fu) hf]
  unfold F_impl_IsSeaweed F_spec_swGood
  rw [iParts_eq hf, sParts_eq hf, iParts_eq hf, sParts_eq hf, sum_eq, sum_eq]
theorem nats_of {p : List Int} (h : inW p = true) : p = nats (p.map Int.toNat) ∧ ((p.map Int.toNat).sum : Int) = p.sum := by
  unfold inW at h
  induction p with
  | nil => exact ⟨rfl, rfl⟩
  | cons a p ih =>
    rw [List.all_cons, Bool.and_eq_true] at h
    obtain ⟨e1, e2⟩ := ih h.2
    have ha := h.1
    simp at ha
    refine ⟨?_, ?_⟩
    · rw [List.map_cons, nats_cons, ← e1]
      congr 1
      omega
    · rw [List.map_cons, List.sum_cons, List.sum_cons]
      omega
noncomputable def grpsOf (p q : List Int) (b : Bool) : List (List Int) :=
  Grp.told (p.map Int.toNat).sum (Grp.arcF (p.map Int.toNat)) (Grp.arcF (q.map Int.toNat)) b (p.map Int.toNat).sum
theorem weed_parts {p q : List Int} (h : weedB p q = true) : (inW p = true ∧ p.length ≤ 20 ∧ p.sum ≤ 20) ∧ (inW q = true ∧ q.length ≤ 20 ∧ q.sum ≤ 20) ∧ p.sum = q.sum := by
  simp only [weedB, Bool.and_eq_true, decide_eq_true_eq] at h
  exact ⟨partsB_in h.1.1, partsB_in h.1.2, h.2⟩
theorem iGroups {p q : List Int} (h : weedB p q = true) (hf : 100000 < fu) : F_impl_Seaweed_groups fu p q = some (grpsOf p q true, grpsOf p q false) := by
  obtain ⟨⟨a1, a2, a3⟩, ⟨b1, b2, b3⟩, c⟩ := weed_parts h
  obtain ⟨e1, e2⟩ := nats_of a1
  obtain ⟨e3, e4⟩ := nats_of b1
  have := groups_eq (fu := fu) (ps := p.map Int.toNat) (qs := q.map Int.toNat) hf (by simp; omega) (by simp; omega) (by omega) (by omega)
  rw [← e1, ← e3] at this
  exact this
theorem sGroups {p q : List Int} {b : Bool} (h : weedB p q = true) (hf : 100000 < fu) : F_spec_swTogether fu p q b = some (grpsOf p q b) := by
  obtain ⟨⟨a1, a2, a3⟩, ⟨b1, b2, b3⟩, c⟩ := weed_parts h
  obtain ⟨e1, e2⟩ := nats_of a1
  obtain ⟨e3, e4⟩ := nats_of b1
  have := together_eq (fu := fu) (ps := p.map Int.toNat) (qs := q.map Int.toNat) (p := b) hf (by simp; omega) (by simp; omega) (by omega) (by omega)
  rw [← e1, ← e3] at this
  exact this
theorem told_both {N : Nat} {t b : Nat → Nat} : ∀ i, (Grp.told N t b true i).length + (Grp.told N t b false i).length ≤ i ∧ (0 < i → 1 ≤ (Grp.told N t b true i).length + (Grp.told N t b false i).length)
  | 0 => by simp [Grp.told]
  | i + 1 => by
    obtain ⟨h1, h2⟩ := told_both (N := N) (t := t) (b := b) i
    by_cases ho : Grp.Old t b i i
    · rw [told_old ho, told_old ho]
      have : 0 < i := by
        obtain ⟨j, hj, _⟩ := ho
        omega
      exact ⟨by omega, fun _ => h2 this⟩
    · cases e : (Grp.cls N t b i).any (Grp.tip t b)
      · rw [told_no ho (by rw [e]; simp), told_yes ho e]
        simp; omega
      · rw [told_yes ho e, told_no ho (by rw [e]; simp)]
        simp; omega
theorem grps_len {p q : List Int} (h : weedB p q = true) : (grpsOf p q true).length + (grpsOf p q false).length ≤ 20 ∧ ((grpsOf p q true).length + (grpsOf p q false).length : Int) ≤ p.sum ∧ (0 < p.sum → 1 ≤ (grpsOf p q true).length + (grpsOf p q false).length) := by
  obtain ⟨⟨a1, a2, a3⟩, ⟨b1, b2, b3⟩, c⟩ := weed_parts h
  obtain ⟨e1, e2⟩ := nats_of a1
  obtain ⟨h1, h2⟩ := told_both (N := (p.map Int.toNat).sum) (t := Grp.arcF (p.map Int.toNat)) (b := Grp.arcF (q.map Int.toNat)) (p.map Int.toNat).sum
  unfold grpsOf
  exact ⟨by omega, by omega, fun hp => h2 (by omega)⟩
noncomputable def idxOf (p q : List Int) : Int := isub .i64 (iadd .i64 (imul .i64 2 (llen (grpsOf p q false))) (llen (grpsOf p q true))) 1
theorem iIndex {p q : List Int} (h : weedB p q = true) (hf : 100000 < fu) : F_impl_Seaweed_index fu p q = some (idxOf p q) := by
  unfold F_impl_Seaweed_index
  rw [iGroups h hf, bd_of]
  rfl
theorem sIndex {p q : List Int} (h : weedB p q = true) (hf : 100000 < fu) : F_spec_swIndex fu p q = some (idxOf p q) := by
  unfold F_spec_swIndex
  rw [sGroups h hf, sGroups h hf, bd_of, bd_of]
  rfl
end
end Go.Proofs.Ytigpmjebldgekaa.AL
