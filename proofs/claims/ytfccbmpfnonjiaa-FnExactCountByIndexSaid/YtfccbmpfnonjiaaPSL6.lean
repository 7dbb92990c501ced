/- The law CountByIndex holds. No condition. -/
import Derived.Test.YtfccbmpfnonjiaaPSL4
import Derived.KernelRfl
namespace Go.Proofs.Ytfccbmpfnonjiaa.AL
open Go
set_option linter.unusedVariables false
set_option linter.unusedSimpArgs false
set_option maxRecDepth 100000
section
theorem parts_L2 {fu : Nat} {f : Int → Option (List (List Int))} {a b : Int} {c : List (List Int)} {d : Int} : ∀ (n : Nat) (l : List (List Int)) (y : Int), F_impl_allParts_L2 fu f a b c d n l y = F_spec_swAll_L2 fu f a b c d n l y := by
  intro n
  induction n with
  | zero => intros; rfl
  | succ n ih => intro l y; simp only [F_impl_allParts_L2, F_spec_swAll_L2, ih]
theorem parts_L1 {fu : Nat} {f : Int → Option (List (List Int))} {a : Int} : ∀ (n : Nat) (l : List (List Int)) (y : Int), F_impl_allParts_L1 fu f a n l y = F_spec_swAll_L1 fu f a n l y := by
  intro n
  induction n with
  | zero => intros; rfl
  | succ n ih => intro l y; simp only [F_impl_allParts_L1, F_spec_swAll_L1, ih, parts_L2]
theorem parts_eq : ∀ (fu : Nat) (x : Int), F_impl_allParts fu x = F_spec_swAll fu x := by
  intro fu
  induction fu with
  | zero => intros; rfl
  | succ fu ih =>
    intro x
    simp only [F_impl_allParts, F_spec_swAll, parts_L1]
    rw [show F_impl_allParts fu = F_spec_swAll fu from funext ih]
def allB (n : Int) (L : List (List Int)) : Bool := decide (L.length ≤ 64) && L.all fun p => partsB p && decide (p.sum = n)
def knownB (n : Int) : Bool := match F_spec_swAll 2000000 n with
  | some L => allB n L
  | none => false
theorem known1 : knownB 1 = true := by kernel_rfl
theorem known2 : knownB 2 = true := by kernel_rfl
theorem known3 : knownB 3 = true := by kernel_rfl
theorem known4 : knownB 4 = true := by kernel_rfl
theorem known5 : knownB 5 = true := by kernel_rfl
theorem known6 : knownB 6 = true := by kernel_rfl
theorem known7 : knownB 7 = true := by kernel_rfl
theorem known {n : Int} (h0 : 1 ≤ n) (h1 : n ≤ 7) : ∃ L, F_spec_swAll 2000000 n = some L ∧ L.length ≤ 64 ∧ ∀ p ∈ L, partsB p = true ∧ p.sum = n := by
  have hk : knownB n = true := by
    rcases (by omega : n = 1 ∨ n = 2 ∨ n = 3 ∨ n = 4 ∨ n = 5 ∨ n = 6 ∨ n = 7) with rfl | rfl | rfl | rfl | rfl | rfl | rfl
    · exact known1
    · exact known2
    · exact known3
    · exact known4
    · exact known5
    · exact known6
    · exact known7
  unfold knownB at hk
  split at hk
  · rename_i L e
    simp only [allB, Bool.and_eq_true, decide_eq_true_eq, List.all_eq_true] at hk
    exact ⟨L, e, hk.1, hk.2⟩
  · cases hk
theorem idx_in {p q : List Int} {n : Int} {l : List Int} (h : weedB p q = true) (hn : p.sum = n) (h0 : 1 ≤ n) (hl : (l.length : Int) = 2 * n + 1) : inL l (idxOf p q) := by
  obtain ⟨h1, h2, h3⟩ := grps_len h
  have h4 := h3 (by omega)
  unfold idxOf
  have e1 : imul .i64 2 (llen (grpsOf p q false)) = 2 * (llen (grpsOf p q false)) := (wrF_eq _ _).trans (wrap_id (by simp only [llen]; omega) (by simp only [llen]; omega))
  rw [e1]
  simp only [llen]
  rw [iadd_id (by omega) (by omega), isub_id (by omega) (by omega)]
  exact ⟨by omega, by omega⟩
theorem cnt_L2 {fu : Nat} (hf : 100000 < fu) {L : List (List Int)} {p : List Int} {n : Int} (h0 : 1 ≤ n) (hp : partsB p = true ∧ p.sum = n) (hL : ∀ q ∈ L, partsB q = true ∧ q.sum = n) (hl : L.length ≤ 64) {c : Int} : ∀ (d k m : Nat) (l : List Int), k + d = L.length → d < m → (l.length : Int) = 2 * n + 1 →
    ∃ l' : List Int, (l'.length : Int) = 2 * n + 1 ∧ F_spec_CountByIndex_L2 fu L p (L.length : Int) c m l (k : Int) = some (l', (L.length : Int)) ∧ F_impl_CountByIndex_L2 fu L p (L.length : Int) c m l (k : Int) = some (l', (L.length : Int)) := by
  intro d
  induction d with
  | zero =>
    intro k m l hk hm hln
    cases m with
    | zero => omega
    | succ m =>
      refine ⟨l, hln, ?_⟩
      simp only [F_spec_CountByIndex_L2, F_impl_CountByIndex_L2]
      have : k = L.length := by omega
      subst this
      rw [ilt_f (by omega), cond_false, cond_false]
      exact ⟨rfl, rfl⟩
  | succ d ih =>
    intro k m l hk hm hln
    cases m with
    | zero => omega
    | succ m =>
      have hk' : k < L.length := by omega
      have hq := hL _ (List.getElem_mem hk')
      have hw : weedB p L[k] = true := by
        unfold weedB
        rw [hp.1, hq.1, hp.2, hq.2]
        simp
      have hin := idx_in hw hp.2 h0 hln
      simp only [F_spec_CountByIndex_L2, F_impl_CountByIndex_L2]
      rw [ilt_t (by omega), cond_true, cond_true, gd_t (inL_nat hk'), gd_t (inL_nat hk'), gat_nat hk', sIndex hw hf, iIndex hw hf, bd_of, bd_of, gd_t hin, gd_t hin, gd_t hin, gd_t hin, iadd_id (a := (k : Int)) (by omega) (by omega)]
      exact ih (k + 1) m _ (by omega) (by omega) (by simpa [lset] using hln)
theorem cnt_L1 {fu : Nat} (hf : 100000 < fu) {L : List (List Int)} {n : Int} (h0 : 1 ≤ n) (hL : ∀ q ∈ L, partsB q = true ∧ q.sum = n) (hl : L.length ≤ 64) : ∀ (d k m : Nat) (l : List Int), k + d = L.length → d < m → (l.length : Int) = 2 * n + 1 →
    ∃ l' : List Int, (l'.length : Int) = 2 * n + 1 ∧ F_spec_CountByIndex_L1 fu L (L.length : Int) m l (k : Int) = some (l', (L.length : Int)) ∧ F_impl_CountByIndex_L1 fu L (L.length : Int) m l (k : Int) = some (l', (L.length : Int)) := by
  intro d
  induction d with
  | zero =>
    intro k m l hk hm hln
    cases m with
    | zero => omega
    | succ m =>
      refine ⟨l, hln, ?_⟩
      simp only [F_spec_CountByIndex_L1, F_impl_CountByIndex_L1]
      have : k = L.length := by omega
      subst this
      rw [ilt_f (by omega), cond_false, cond_false]
      exact ⟨rfl, rfl⟩
  | succ d ih =>
    intro k m l hk hm hln
    cases m with
    | zero => omega
    | succ m =>
      have hk' : k < L.length := by omega
      have hq := hL _ (List.getElem_mem hk')
      obtain ⟨l1, g1, g2, g3⟩ := cnt_L2 (fu := fu) hf (p := L[k]) h0 hq hL hl (c := (k : Int)) L.length 0 fu l (by omega) (by omega) hln
      rw [Int.natCast_zero] at g2 g3
      simp only [F_spec_CountByIndex_L1, F_impl_CountByIndex_L1]
      rw [ilt_t (by omega), cond_true, cond_true, gd_t (inL_nat hk'), gd_t (inL_nat hk'), gat_nat hk', g2, g3, bd_of, bd_of, iadd_id (by omega) (by omega)]
      exact ih (k + 1) m _ (by omega) (by omega) g1
theorem count_eq {n : Int} : ∃ S : List Int × Bool, F_spec_CountByIndex 2000000 n = some S ∧ F_impl_CountByIndex 2000000 n = some S ∧ S.1.length ≤ 20 := by
  unfold F_spec_CountByIndex F_impl_CountByIndex
  rw [l1In_eq, in_eq, bd_of, bd_of]
  cases h : (decide (1 ≤ n) && decide (n ≤ 7))
  · exact ⟨_, rfl, rfl, by simp⟩
  · simp only [Bool.and_eq_true, decide_eq_true_eq] at h
    obtain ⟨L, e, h1, h2⟩ := known h.1 h.2
    have e1 : imul .i64 2 n = 2 * n := (wrF_eq _ _).trans (wrap_id (by omega) (by omega))
    rw [show bnot true = false from rfl, cond_false, cond_false, e1, iadd_id (by omega) (by omega), gd_t (by omega), gd_t (by omega), parts_eq, e, bd_of, bd_of]
    obtain ⟨l1, g1, g2, g3⟩ := cnt_L1 (fu := 2000000) (by omega) h.1 h2 h1 L.length 0 2000000 (lrep (2 * n + 1) 0) (by omega) (by omega) (by simp [lrep]; omega)
    rw [Int.natCast_zero] at g2 g3
    simp only [llen]
    rw [g2, g3, bd_of]
    exact ⟨_, rfl, rfl, by simp only; omega⟩
theorem law_CountByIndex {n : Int} (w : (Lit.int .i64 n).wf = true) : F_laws_FnExactCountByIndex 2000000 n = some true := by
  unfold F_laws_FnExactCountByIndex
  obtain ⟨S, e1, e2, l1⟩ := count_eq (n := n)
  have q1 := eqIntS_eq (fu := 2000000) (xs := S.1) (by omega) (by omega)
  have m1 := markIntS_eq (fu := 2000000) (xs := S.1) (m := 1) (by omega) (by omega) (by omega)
  have h3 := heldIntS_eq (fu := 2000000) (m := 1) (len := S.1.length) (by omega) (by omega) (by omega)
  have n1 : ilt (1 + (S.1.length : Int)) 0 = false := ilt_f (by omega)
  simp [e1, e2, q1, m1, h3, n1, bnot, bne', ine_eq]
end
end Go.Proofs.Ytfccbmpfnonjiaa.AL
