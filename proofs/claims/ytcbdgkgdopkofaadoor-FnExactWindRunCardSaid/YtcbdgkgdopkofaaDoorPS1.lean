/- Seaweeds of two and of three parts: what lies outside. No condition. -/
import Derived.Test.YtcbdgkgdopkofaaDoorPA1
namespace Go.Proofs.YtcbdgkgdopkofaaDoor.AL
open Go
set_option linter.unusedVariables false
set_option linter.unusedSimpArgs false
section
variable {fu : Nat} {p : List Int}
theorem in_eq (a b c : Int) : F_impl_in fu a b c = some (decide (b ≤ a) && decide (a ≤ c)) := by
  unfold F_impl_in
  rw [ile_eq, ile_eq]
  cases decide (b ≤ a) <;> rfl
theorem l1In_eq (a b c : Int) : F_spec_l1In fu a b c = some (decide (b ≤ a) && decide (a ≤ c)) := by
  unfold F_spec_l1In
  rw [ile_eq, ile_eq]
  cases decide (b ≤ a) <;> rfl
theorem l1All_L {lo hi : Int} (hx : p.length ≤ 4294967296) : ∀ (d k n : Nat), k + d = p.length → d < n →
    F_spec_l1All_L1 fu lo hi p (p.length : Int) n (k : Int) = some (if (p.drop k).all (fun x => decide (lo ≤ x) && decide (x ≤ hi)) then .brk (p.length : Int) else .ret false) := by
  intro d
  induction d with
  | zero =>
    intro k n hk hn
    cases n with
    | zero => omega
    | succ n =>
      have : k = p.length := by omega
      subst this
      simp only [F_spec_l1All_L1]
      rw [ilt_f (by omega), cond_false]
      simp
  | succ d ih =>
    intro k n hk hn
    cases n with
    | zero => omega
    | succ n =>
      simp only [F_spec_l1All_L1]
      rw [ilt_t (by omega), cond_true, gd_t (inL_nat (by omega)), l1In_eq, bd_of, gat_nat (by omega), List.drop_eq_getElem_cons (by omega : k < p.length), List.all_cons]
      cases h : (decide (lo ≤ p[k]) && decide (p[k] ≤ hi))
      · simp [bnot]
      · rw [show bnot true = false from rfl, cond_false, iadd_id (by omega) (by omega)]
        have := ih (k + 1) n (by omega) (by omega)
        simpa using this
theorem l1All_eq {lo hi : Int} (hx : p.length ≤ 4294967296) (hf : p.length < fu) : F_spec_l1All fu p lo hi = some (p.all fun x => decide (lo ≤ x) && decide (x ≤ hi)) := by
  unfold F_spec_l1All
  have := l1All_L (fu := fu) (lo := lo) (hi := hi) hx p.length 0 fu (by omega) hf
  rw [Int.natCast_zero, List.drop_zero] at this
  simp only [llen]
  rw [this, bd_of]
  cases (p.all fun x => decide (lo ≤ x) && decide (x ≤ hi)) <;> rfl
theorem indexFunc_L {f : Int → Option Bool} {g : Int → Bool} (hf : ∀ x, f x = some (g x)) (hx : p.length ≤ 4294967296) : ∀ (d k n : Nat), k + d = p.length → d < n →
    ∃ i : Int, 0 ≤ i ∧ F_slices_IndexFunc_Sint_L1 fu p f (p.length : Int) n (k : Int) = some (if (p.drop k).any g then .ret i else .brk (p.length : Int)) := by
  intro d
  induction d with
  | zero =>
    intro k n hk hn
    cases n with
    | zero => omega
    | succ n =>
      have : k = p.length := by omega
      subst this
      refine ⟨0, by omega, ?_⟩
      simp only [F_slices_IndexFunc_Sint_L1]
      rw [ilt_f (by omega), cond_false]
      simp
  | succ d ih =>
    intro k n hk hn
    cases n with
    | zero => omega
    | succ n =>
      simp only [F_slices_IndexFunc_Sint_L1]
      rw [ilt_t (by omega), cond_true, gd_t (inL_nat (by omega)), hf, bd_of, gat_nat (by omega), List.drop_eq_getElem_cons (by omega : k < p.length), List.any_cons]
      cases h : g p[k]
      · rw [cond_false, iadd_id (by omega) (by omega)]
        obtain ⟨i, h0, h1⟩ := ih (k + 1) n (by omega) (by omega)
        exact ⟨i, h0, by simpa using h1⟩
      · exact ⟨k, by omega, by simp⟩
theorem containsFunc_eq {f : Int → Option Bool} {g : Int → Bool} (h : ∀ x, f x = some (g x)) (hx : p.length ≤ 4294967296) (hf : p.length < fu) : F_slices_ContainsFunc_Sint fu p f = some (p.any g) := by
  unfold F_slices_ContainsFunc_Sint F_slices_IndexFunc_Sint
  obtain ⟨i, h0, h1⟩ := indexFunc_L (fu := fu) h hx p.length 0 fu (by omega) hf
  rw [Int.natCast_zero, List.drop_zero] at h1
  simp only [llen]
  rw [h1, bd_of]
  cases (p.any g)
  · rfl
  · simp [lr, bd_of, ile_eq, h0]
theorem sum_L {c : List Int} {m : Int} : ∀ (n : Nat) (y z : Int), F_impl_sum_L1 fu c m n y z = F_spec_swSum_L1 fu c m n y z := by
  intro n
  induction n with
  | zero => intros; rfl
  | succ n ih => intro y z; simp only [F_impl_sum_L1, F_spec_swSum_L1, ih]
theorem sum_eq : F_impl_sum fu p = F_spec_swSum fu p := by
  unfold F_impl_sum F_spec_swSum
  rw [sum_L]
def inW (p : List Int) : Bool := p.all fun x => decide (1 ≤ x) && decide (x ≤ 20)
theorem swParts_eq (hx : p.length ≤ 20) (hf : 20 < fu) : F_spec_swParts fu p = bif inW p then bd (F_spec_swSum fu p) fun r => some (ile r 20) else some false := by
  unfold F_spec_swParts
  rw [ilt_f (by simp only [llen]; omega), cond_false, l1All_eq (by omega) (by omega), bd_of, bd_of]
  show (bif bnot (inW p) then _ else _) = _
  cases inW p <;> rfl
theorem areParts_eq (hx : p.length ≤ 20) (hf : 20 < fu) : F_impl_areParts fu p = F_spec_swParts fu p := by
  rw [swParts_eq hx hf]
  unfold F_impl_areParts
  have h1 : ∀ x, F_impl_areParts_1 fu x = some (!(decide (1 ≤ x) && decide (x ≤ 20))) := fun x => by
    unfold F_impl_areParts_1
    rw [in_eq, bd_of]
    rfl
  rw [ile_eq, show decide (llen p ≤ 20) = true by simp only [llen]; exact decide_eq_true (by omega), cond_true, containsFunc_eq h1 (by omega) (by omega), bd_of]
  have e : (p.any fun x => !(decide (1 ≤ x) && decide (x ≤ 20))) = !(inW p) := by
    unfold inW
    rw [List.all_eq_not_any_not, Bool.not_not]
  rw [e, sum_eq]
  cases inW p <;> rfl
end
end Go.Proofs.YtcbdgkgdopkofaaDoor.AL
