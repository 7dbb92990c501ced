/- A winding step: the program's and the reference's are one, and the law holds. No condition. -/
import Derived.Test.YtfccbmpfnonjiaaPSL4
namespace Go.Proofs.Ytfccbmpfnonjiaa.AL
open Go
set_option linter.unusedVariables false
set_option linter.unusedSimpArgs false
set_option maxRecDepth 100000
section
variable {fu : Nat} {p q x y : List Int}
theorem own_eq (h : x.length ≤ 100000) : F_spec_l1Own fu x = some x := by
  unfold F_spec_l1Own
  rw [gd_t (by simp; omega)]
  simp [lapp]
theorem clone_eq (h : x.length ≤ 100000) : F_slices_Clone_Sint fu x = some x := by
  unfold F_slices_Clone_Sint
  rw [gd_t (by simp; omega)]
  simp [lapp]
theorem lsub_tail : lsub x 1 (llen x) = x.drop 1 := by
  simp only [lsub, llen]
  rw [List.take_of_length_le (by simp)]
  rfl
theorem put_eq (hx : 1 ≤ x.length) (hl : x.length ≤ 100000) (hy : y.length ≤ 100000) : F_spec_swPut fu x y = some (y ++ x.drop 1) := by
  unfold F_spec_swPut
  rw [gd_t (by simp; omega), gd_t (subL_mk (by omega) (by simp only [llen]; omega) (by simp only [llen]; omega)), lsub_tail, gd_t (by simp [lapp]; omega)]
  simp [lapp]
theorem grow_eq {n : Int} (h0 : 0 ≤ n) (h1 : n ≤ 1000000) : F_slices_Grow_Sint fu n = some [] := by
  unfold F_slices_Grow_Sint
  rw [ilt_f (by omega), cond_false, bd_of, isub_id (a := 0) (by omega) (by omega), isub_id (by omega) (by omega)]
  by_cases h : 0 < n
  · rw [ilt_t (by omega), cond_true, gd_t (by omega), gd_t (subL_mk (by omega) (by omega) (by omega))]
    simp [lsub]
  · rw [ilt_f (by omega), cond_false]
theorem concat_eq (hf : 10 < fu) (hx : x.length ≤ 100000) (hy : y.length ≤ 100000) : F_slices_Concat_Sint fu [x, y] = some (x ++ y) := by
  obtain ⟨n, rfl⟩ : ∃ n, fu = n + 1 + 1 + 1 + 1 := ⟨fu - 4, by omega⟩
  have g0 : gat [] [x, y] 0 = x := by simp [gat_eq]
  have g1 : gat [] [x, y] 1 = y := by simp [gat_eq]
  have b1 : iadd .i64 0 1 = 1 := iadd_id (by omega) (by omega)
  have b2 : iadd .i64 1 1 = 2 := iadd_id (by omega) (by omega)
  have i0 : inL [x, y] 0 := ⟨by omega, by simp⟩
  have i1 : inL [x, y] 1 := ⟨by omega, by simp⟩
  have a1 : iadd .i64 0 (x.length : Int) = (x.length : Int) := by rw [iadd_id (by omega) (by omega)]; omega
  have a2 : iadd .i64 (x.length : Int) (y.length : Int) = (x.length : Int) + (y.length : Int) := iadd_id (by omega) (by omega)
  have l1 : F_slices_Concat_Sint_L1 (n + 1 + 1 + 1 + 1) [x, y] 2 (n + 1 + 1 + 1 + 1) 0 0 = some ((x.length : Int) + (y.length : Int), 2) := by
    simp only [F_slices_Concat_Sint_L1, llen]
    rw [ilt_t (by omega), cond_true, gd_t i0, g0, a1, ilt_f (by omega), cond_false, b1]
    rw [ilt_t (by omega), cond_true, gd_t i1, g1, a2, ilt_f (by omega), cond_false, b2]
    rw [ilt_f (by omega), cond_false]
  have l2 : F_slices_Concat_Sint_L2 (n + 1 + 1 + 1 + 1) [x, y] 2 (n + 1 + 1 + 1 + 1) [] 0 = some (x ++ y, 2) := by
    simp only [F_slices_Concat_Sint_L2]
    rw [ilt_t (by omega), cond_true, gd_t i0, g0, gd_t (by simp; omega), b1]
    rw [ilt_t (by omega), cond_true, gd_t i1, g1, gd_t (by simp [lapp]; omega), b2]
    rw [ilt_f (by omega), cond_false]
    simp [lapp]
  unfold F_slices_Concat_Sint
  rw [show llen [x, y] = 2 from rfl, l1, bd_of]
  simp only
  rw [grow_eq (by omega) (by omega), bd_of, l2, bd_of]
theorem step_eq (h : weedB p q = true) (hp : 1 ≤ p.length) (hf : 10 < fu) :
    ∃ S, F_spec_swStep fu p q = some S ∧ F_impl_Seaweed_wound fu p q = some S ∧ S.1.1.length ≤ 100 ∧ S.1.2.length ≤ 100 := by
  obtain ⟨⟨a1, a2, a3⟩, ⟨b1, b2, b3⟩, c⟩ := weed_parts h
  have hq : 1 ≤ q.length := by
    cases q with
    | nil =>
      cases p with
      | nil => simp at hp
      | cons a p =>
        exfalso
        have h1 := (nats_of a1).2
        unfold inW at a1
        rw [List.all_cons, Bool.and_eq_true] at a1
        have h2 := a1.1
        simp at h2
        rw [List.map_cons, List.sum_cons] at h1
        have : ([] : List Int).sum = 0 := rfl
        omega
    | cons b q => simp
  have ga : 1 ≤ gat 0 p 0 ∧ gat 0 p 0 ≤ 20 := by
    cases p with
    | nil => simp at hp
    | cons a p =>
      unfold inW at a1
      rw [List.all_cons, Bool.and_eq_true] at a1
      have h2 := a1.1
      simp at h2
      simpa [gat_eq] using h2
  have gb : 1 ≤ gat 0 q 0 ∧ gat 0 q 0 ≤ 20 := by
    cases q with
    | nil => simp at hq
    | cons a q =>
      unfold inW at b1
      rw [List.all_cons, Bool.and_eq_true] at b1
      have h2 := b1.1
      simp at h2
      simpa [gat_eq] using h2
  generalize hA : gat 0 p 0 = A at ga
  generalize hB : gat 0 q 0 = B at gb
  have e2 : imul .i64 2 B = 2 * B := (wrF_eq _ _).trans (wrap_id (by omega) (by omega))
  have s1 : subL p 1 (llen p) := subL_mk (by omega) (by simp only [llen]; omega) (by simp only [llen]; omega)
  have s2 : subL q 1 (llen q) := subL_mk (by omega) (by simp only [llen]; omega) (by simp only [llen]; omega)
  have i1 : inL p 0 := inL_mk (by omega) (by omega)
  have i2 : inL q 0 := inL_mk (by omega) (by omega)
  unfold F_spec_swStep F_impl_Seaweed_wound
  simp only [gd_t i1, gd_t i2, gd_t s1, gd_t s2, lsub_tail, hA, hB, e2]
  by_cases h1 : A < B
  · rw [ilt_t h1, cond_true, cond_true, own_eq (by omega), own_eq (by omega), clone_eq (by omega), clone_eq (by omega)]
    exact ⟨_, rfl, rfl, by simp only; omega, by simp only; omega⟩
  · rw [ilt_f h1, cond_false, cond_false]
    by_cases h2 : A = B
    · rw [ieq_t h2, cond_true, cond_true, own_eq (by simp; omega), own_eq (by simp; omega), clone_eq (by simp; omega), clone_eq (by simp; omega), bd_of]
      exact ⟨_, rfl, rfl, by simp; omega, by simp; omega⟩
    · rw [ieq_f h2, cond_false, cond_false]
      by_cases h3 : A = 2 * B
      · rw [ieq_t h3, cond_true, cond_true, put_eq hp (by omega) (by simp), bd_of, own_eq (by simp; omega), concat_eq hf (by simp) (by simp; omega), clone_eq (by simp; omega)]
        exact ⟨_, rfl, rfl, by simp; omega, by simp; omega⟩
      · rw [ieq_f h3, cond_false, cond_false]
        by_cases h4 : A < 2 * B
        · rw [ilt_t h4, cond_true, cond_true, put_eq hp (by omega) (by simp), put_eq hq (by omega) (by simp), concat_eq hf (by simp) (by simp; omega), concat_eq hf (by simp) (by simp; omega)]
          exact ⟨_, rfl, rfl, by simp; omega, by simp; omega⟩
        · rw [ilt_f h4, cond_false, cond_false, put_eq hp (by omega) (by simp), bd_of, own_eq (by simp; omega), concat_eq hf (by simp) (by simp; omega), clone_eq (by simp; omega)]
          exact ⟨_, rfl, rfl, by simp; omega, by simp; omega⟩
theorem heldSeaweed_eq {m : Int} {la lb : Nat} (h0 : 0 ≤ m) (hm : m ≤ 16777216) (ha : la ≤ 1048576) (hb : lb ≤ 1048576) (hf : 1048576 < fu) :
    F_laws_heldSeaweed fu (marks m la) (marks (m + (la : Int)) lb) m = some (m + (la : Int) + (lb : Int)) := by
  unfold F_laws_heldSeaweed
  rw [heldIntS_eq h0 (by omega) (by omega), bd_of, ilt_f (by omega), cond_false, heldIntS_eq (by omega) (by omega) (by omega), bd_of, ilt_f (by omega), cond_false]
theorem windStep_eq (hf : 20 < fu) : ∃ S, F_spec_WindStep fu p q = some S ∧ F_impl_WindStep fu p q = some S ∧ S.1.1.length ≤ 100 ∧ S.1.2.length ≤ 100 := by
  unfold F_spec_WindStep F_impl_WindStep
  rw [swGood_eq (by omega), isWeed_eq (by omega), bd_of]
  cases h : weedB p q
  · exact ⟨_, rfl, rfl, by simp, by simp⟩
  · simp only [bnot, Bool.not_true, cond_false, bd_of]
    by_cases hp : 1 ≤ p.length
    · rw [ieq_f (by simp only [llen]; omega), cond_false, cond_false]
      obtain ⟨S, e1, e2, l1, l2⟩ := step_eq (fu := fu) h hp (by omega)
      rw [e1, e2]
      exact ⟨_, rfl, rfl, l1, l2⟩
    · rw [ieq_t (by simp only [llen]; omega), cond_true, cond_true]
      exact ⟨_, rfl, rfl, by simp, by simp⟩
theorem law_WindStep {a b : List Int} (ha : a.length ≤ 9223372036854775807) (hb : b.length ≤ 9223372036854775807) : F_laws_FnExactWindStep 2000000 a b = some true := by
  unfold F_laws_FnExactWindStep
  rw [szSeaweed_eq (by omega) (by omega) ha hb, bd_of]
  by_cases h1 : (a.length : Int) + (b.length : Int) ≤ 1048576
  · rw [if_pos h1, ilt_f (by omega), cond_false]
    have t1 := toSeaweed_eq (fu := 2000000) (a := a) (b := b) (by omega) (by omega) (by omega)
    have q1 := eqSeaweed_eq (fu := 2000000) (a := a) (b := b) (by omega) (by omega) (by omega)
    obtain ⟨S, e1, e2, l1, l2⟩ := windStep_eq (fu := 2000000) (p := a) (q := b) (by omega)
    have q2 := eqSeaweed_eq (fu := 2000000) (a := S.1.1) (b := S.1.2) (by omega) (by omega) (by omega)
    have m0 := markSeaweed_eq (fu := 2000000) (a := a) (b := b) (m := 1) (by omega) (by omega) (by omega) (by omega) (by omega)
    have m1 := markSeaweed_eq (fu := 2000000) (a := S.1.1) (b := S.1.2) (m := 1) (by omega) (by omega) (by omega) (by omega) (by omega)
    have h3 := heldSeaweed_eq (fu := 2000000) (m := 1) (la := S.1.1.length) (lb := S.1.2.length) (by omega) (by omega) (by omega) (by omega) (by omega)
    have n1 : ilt (1 + (a.length : Int) + (b.length : Int)) 0 = false := ilt_f (by omega)
    have n2 : ilt (1 + (S.1.1.length : Int) + (S.1.2.length : Int)) 0 = false := ilt_f (by omega)
    simp [t1, q1, q2, m0, m1, h3, e1, e2, n1, n2, bnot, bne', sne', ine_eq]
  · rw [if_neg h1, ilt_t (by omega), cond_true]
end
end Go.Proofs.Ytfccbmpfnonjiaa.AL
