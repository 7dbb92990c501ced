/- Indices of seaweeds of three parts. No condition. -/
import Derived.Test.YtfccbmpfnonjiaaPSThK3
import Derived.Test.YtfccbmpfnonjiaaPS1
namespace Go.Proofs.Ytfccbmpfnonjiaa.AL
open Go
set_option linter.unusedVariables false
set_option linter.unusedSimpArgs false
set_option maxRecDepth 100000
theorem thr_in {a b : Nat} (h : thrK a b = true) {x y z : Nat} (hx : a ≤ x ∧ x < a + b) (hy : 1 ≤ y ∧ y ≤ 20) (hz : 1 ≤ z ∧ z ≤ 20) (hs : x + y + z ≤ 20) : thrQ (x : Int) (y : Int) (z : Int) = true := by
  have h1 := List.all_eq_true.1 (List.all_eq_true.1 h x (List.mem_range'_1.2 hx)) y (List.mem_range'_1.2 ⟨by omega, by omega⟩)
  rw [Bool.or_eq_true] at h1
  rcases h1 with h1 | h1
  · simp at h1; omega
  · have h2 := List.all_eq_true.1 h1 z (List.mem_range'_1.2 ⟨by omega, by omega⟩)
    rw [Bool.or_eq_true] at h2
    rcases h2 with h2 | h2
    · simp at h2; omega
    · exact h2
theorem thr_at {x y z : Int} (hx : 1 ≤ x ∧ x ≤ 20) (hy : 1 ≤ y ∧ y ≤ 20) (hz : 1 ≤ z ∧ z ≤ 20) (hs : x + y + z ≤ 20) : thrQ x y z = true := by
  have key : thrQ ((x.toNat : Nat) : Int) ((y.toNat : Nat) : Int) ((z.toNat : Nat) : Int) = true := by
    have hy' : 1 ≤ y.toNat ∧ y.toNat ≤ 20 := by omega
    have hz' : 1 ≤ z.toNat ∧ z.toNat ≤ 20 := by omega
    have hs' : x.toNat + y.toNat + z.toNat ≤ 20 := by omega
    by_cases c1 : x.toNat < 2
    · exact thr_in thr1 (by omega) hy' hz' hs'
    · by_cases c2 : x.toNat < 3
      · exact thr_in thr2 (by omega) hy' hz' hs'
      · by_cases c3 : x.toNat < 4
        · exact thr_in thr3 (by omega) hy' hz' hs'
        · by_cases c4 : x.toNat < 5
          · exact thr_in thr4 (by omega) hy' hz' hs'
          · by_cases c5 : x.toNat < 6
            · exact thr_in thr5 (by omega) hy' hz' hs'
            · by_cases c6 : x.toNat < 8
              · exact thr_in thr6 (by omega) hy' hz' hs'
              · by_cases c7 : x.toNat < 11
                · exact thr_in thr7 (by omega) hy' hz' hs'
                · exact thr_in thr8 (by omega) hy' hz' hs'
  rwa [show ((x.toNat : Nat) : Int) = x by omega, show ((y.toNat : Nat) : Int) = y by omega, show ((z.toNat : Nat) : Int) = z by omega] at key
theorem sum3_L {fu n : Nat} {x y z : Int} (hx : 1 ≤ x ∧ x ≤ 20) (hy : 1 ≤ y ∧ y ≤ 20) (hz : 1 ≤ z ∧ z ≤ 20) : F_spec_swSum_L1 fu [x, y, z] 3 (n + 1 + 1 + 1 + 1) 0 0 = some (x + y + z, 3) := by
  have a1 : iadd .i64 0 x = x := by rw [iadd_id (by omega) (by omega)]; omega
  have a2 : iadd .i64 x y = x + y := iadd_id (by omega) (by omega)
  have a3 : iadd .i64 (x + y) z = x + y + z := iadd_id (by omega) (by omega)
  have b1 : iadd .i64 0 1 = 1 := iadd_id (by omega) (by omega)
  have b2 : iadd .i64 1 1 = 2 := iadd_id (by omega) (by omega)
  have b3 : iadd .i64 2 1 = 3 := iadd_id (by omega) (by omega)
  have g1 : gat 0 [x, y, z] 0 = x := by simp [gat_eq]
  have g2 : gat 0 [x, y, z] 1 = y := by simp [gat_eq]
  have g3 : gat 0 [x, y, z] 2 = z := by simp [gat_eq]
  simp only [F_spec_swSum_L1]
  rw [ilt_t (by omega), cond_true, gd_t (by unfold inL; simp), b1, g1, a1]
  rw [ilt_t (by omega), cond_true, gd_t (by unfold inL; simp), b2, g2, a2]
  rw [ilt_t (by omega), cond_true, gd_t (by unfold inL; simp), b3, g3, a3]
  rw [ilt_f (by omega), cond_false]
theorem sum3 {x y z : Int} (h : inW [x, y, z] = true) : F_spec_swSum 2000000 [x, y, z] = some (x + y + z) := by
  simp [inW] at h
  unfold F_spec_swSum
  have e : F_spec_swSum_L1 2000000 [x, y, z] (llen [x, y, z]) 2000000 0 0 = some (x + y + z, 3) :=
    sum3_L (n := 1999996) ⟨by omega, by omega⟩ ⟨by omega, by omega⟩ ⟨by omega, by omega⟩
  rw [e, bd_of]
theorem parts3 {x y z : Int} : F_spec_swParts 2000000 [x, y, z] = some (inW [x, y, z] && decide (x + y + z ≤ 20)) := by
  rw [swParts_eq (by simp) (by omega)]
  cases h : inW [x, y, z]
  · rfl
  · rw [cond_true, sum3 h, bd_of, ile_eq]
    rfl
theorem thr_no {x y z : Int} (h : (inW [x, y, z] && decide (x + y + z ≤ 20)) = false) : F_spec_IndexOfThree 2000000 x y z = some (0, false) ∧ F_impl_IndexOfThree 2000000 x y z = some (0, false) := by
  unfold F_spec_IndexOfThree F_impl_IndexOfThree F_impl_indexFor
  rw [areParts_eq (by simp) (by omega), parts3, h, bd_of, bd_of]
  exact ⟨rfl, rfl⟩
theorem law_IndexOfThree {a b c : Int} (w0 : (Lit.int .i64 a).wf = true) (w1 : (Lit.int .i64 b).wf = true) (w2 : (Lit.int .i64 c).wf = true) : F_laws_FnExactIndexOfThree 2000000 a b c = some true := by
  unfold F_laws_FnExactIndexOfThree
  cases h : (inW [a, b, c] && decide (a + b + c ≤ 20))
  · obtain ⟨e1, e2⟩ := thr_no h
    rw [e1, e2]
    rfl
  · have h2 : thrQ a b c = true := by
      simp [inW] at h
      exact thr_at ⟨by omega, by omega⟩ ⟨by omega, by omega⟩ ⟨by omega, by omega⟩ (by omega)
    unfold thrQ at h2
    split at h2
    · rename_i r s e1 e2
      rw [e1, e2]
      obtain ⟨r1, r2⟩ := r
      obtain ⟨s1, s2⟩ := s
      simp at h2
      obtain ⟨rfl, rfl⟩ := h2
      simp only [bd_of, ine_eq, bne_self_eq_false, cond_false]
      cases s2 <;> rfl
    · cases h2
end Go.Proofs.Ytfccbmpfnonjiaa.AL
