/- Winding down: each step gives a seaweed again, and something falls. No condition. -/
import Derived.Test.YtcbdgkgdopkofaaDoorPJ4
import Derived.Test.YtcbdgkgdopkofaaDoorGRun
namespace Go.Proofs.YtcbdgkgdopkofaaDoor.AL
open Go
set_option linter.unusedVariables false
set_option linter.unusedSimpArgs false
section
variable {fu : Nat} {p q : List Int} {x : Int}
theorem inW_cons : inW (x :: p) = true ↔ (1 ≤ x ∧ x ≤ 20) ∧ inW p = true := by simp [inW]
theorem len_sum (h : inW p = true) : (p.length : Int) ≤ p.sum := by
  induction p with
  | nil => simp
  | cons a p ih =>
    obtain ⟨h1, h2⟩ := inW_cons.1 h
    have := ih h2
    rw [List.sum_cons, List.length_cons]
    omega
theorem weed_iff : weedB p q = true ↔ inW p = true ∧ inW q = true ∧ p.sum = q.sum ∧ p.sum ≤ 20 := by
  constructor
  · intro h
    obtain ⟨⟨a1, a2, a3⟩, ⟨b1, b2, b3⟩, c⟩ := weed_parts h
    exact ⟨a1, b1, c, a3⟩
  · rintro ⟨a1, b1, c, a3⟩
    have h1 := len_sum a1
    have h2 := len_sum b1
    simp only [weedB, partsB, Bool.and_eq_true, decide_eq_true_eq]
    exact ⟨⟨⟨⟨by omega, a1⟩, by omega⟩, ⟨⟨by omega, b1⟩, by omega⟩⟩, c⟩
theorem gat0 {a : Int} {l : List Int} : gat 0 (a :: l) 0 = a := by simp [gat_eq]
def meas (p q : List Int) : Nat := 2 * p.sum.toNat + (if gat 0 p 0 < gat 0 q 0 then 1 else 0)
theorem step_ok (h : weedB p q = true) (hp : 1 ≤ p.length) (hf : 10 < fu) :
    ∃ S, F_spec_swStep fu p q = some S ∧ F_impl_Seaweed_wound fu p q = some S ∧ weedB S.1.1 S.1.2 = true ∧ S.2.size = 1 ∧ meas S.1.1 S.1.2 < meas p q := by
  obtain ⟨a1, b1, c, a3⟩ := weed_iff.1 h
  have lp := len_sum a1
  have lq := len_sum b1
  cases p with
  | nil => simp at hp
  | cons a p =>
    cases q with
    | nil =>
      rw [List.length_cons] at lp
      have : ([] : List Int).sum = 0 := rfl
      omega
    | cons b q =>
      obtain ⟨⟨ha1, ha2⟩, a1'⟩ := inW_cons.1 a1
      obtain ⟨⟨hb1, hb2⟩, b1'⟩ := inW_cons.1 b1
      have sp : (a :: p).sum = a + p.sum := List.sum_cons
      have sq : (b :: q).sum = b + q.sum := List.sum_cons
      have lp' := len_sum a1'
      have lq' := len_sum b1'
      rw [sp, sq] at c
      rw [sp] at a3
      have e2 : imul .i64 2 b = 2 * b := (wrF_eq _ _).trans (wrap_id (by omega) (by omega))
      have s1 : subL (a :: p) 1 (llen (a :: p)) := subL_mk (by omega) (by simp only [llen, List.length_cons]; omega) (by simp only [llen]; omega)
      have s2 : subL (b :: q) 1 (llen (b :: q)) := subL_mk (by omega) (by simp only [llen, List.length_cons]; omega) (by simp only [llen]; omega)
      have i1 : inL (a :: p) 0 := inL_mk (by omega) (by simp only [List.length_cons]; omega)
      have i2 : inL (b :: q) 0 := inL_mk (by omega) (by simp only [List.length_cons]; omega)
      have L1 : (a :: p).length ≤ 100000 := by rw [List.length_cons]; omega
      have L2 : (b :: q).length ≤ 100000 := by rw [List.length_cons]; omega
      have L3 : p.length ≤ 100000 := by omega
      have L4 : q.length ≤ 100000 := by omega
      unfold F_spec_swStep F_impl_Seaweed_wound
      simp only [gd_t i1, gd_t i2, gd_t s1, gd_t s2, lsub_tail, gat0, e2]
      have d1 : (a :: p).drop 1 = p := rfl
      have d2 : (b :: q).drop 1 = q := rfl
      rw [d1, d2]
      have M : ∀ {P Q : List Int} {k : Nat}, inW P = true → P.sum < a + p.sum → meas P Q < meas (a :: p) (b :: q) := by
        intro P Q k hP hs
        have := len_sum hP
        unfold meas
        rw [sp]
        split <;> split <;> omega
      by_cases h1 : a < b
      · rw [ilt_t h1, cond_true, cond_true, own_eq L2, own_eq L1, clone_eq L2, clone_eq L1]
        refine ⟨_, rfl, rfl, weed_iff.2 ⟨b1, a1, by rw [sp, sq]; omega, by rw [sq]; omega⟩, rfl, ?_⟩
        unfold meas
        simp only [gat0, sp, sq]
        rw [if_pos h1, if_neg (by omega)]
        omega
      · rw [ilt_f h1, cond_false, cond_false]
        by_cases h2 : a = b
        · rw [ieq_t h2, cond_true, cond_true, own_eq L3, own_eq L4, clone_eq L3, clone_eq L4, bd_of]
          exact ⟨_, rfl, rfl, weed_iff.2 ⟨a1', b1', by simp only; omega, by simp only; omega⟩, rfl, M (k := 0) a1' (by simp only; omega)⟩
        · rw [ieq_f h2, cond_false, cond_false]
          have put1 : ∀ {y : List Int}, y.length ≤ 2 → F_spec_swPut fu (a :: p) y = some (y ++ p) := fun hy => by rw [put_eq (by simp) L1 (by omega)]; rfl
          have put2 : ∀ {y : List Int}, y.length ≤ 2 → F_spec_swPut fu (b :: q) y = some (y ++ q) := fun hy => by rw [put_eq (by simp) L2 (by omega)]; rfl
          by_cases h3 : a = 2 * b
          · rw [ieq_t h3, cond_true, cond_true, put1 (by simp), bd_of, own_eq L4, concat_eq hf (by simp) L3, clone_eq L4]
            have w1 : inW ([b] ++ p) = true := inW_cons.2 ⟨⟨hb1, hb2⟩, a1'⟩
            have w2 : ([b] ++ p).sum = b + p.sum := List.sum_cons
            exact ⟨_, rfl, rfl, weed_iff.2 ⟨w1, b1', by simp only [w2]; omega, by simp only [w2]; omega⟩, rfl, M (k := 0) w1 (by simp only [w2]; omega)⟩
          · rw [ieq_f h3, cond_false, cond_false]
            by_cases h4 : a < 2 * b
            · have e3 : isub .i64 (2 * b) a = 2 * b - a := isub_id (by omega) (by omega)
              rw [ilt_t h4, cond_true, cond_true, put1 (by simp), put2 (by simp), concat_eq hf (by simp) L3, concat_eq hf (by simp) L4, e3]
              have w1 : inW ([b] ++ p) = true := inW_cons.2 ⟨⟨hb1, hb2⟩, a1'⟩
              have w3 : inW ([2 * b - a] ++ q) = true := inW_cons.2 ⟨⟨by omega, by omega⟩, b1'⟩
              have w2 : ([b] ++ p).sum = b + p.sum := List.sum_cons
              have w4 : ([2 * b - a] ++ q).sum = 2 * b - a + q.sum := List.sum_cons
              exact ⟨_, rfl, rfl, weed_iff.2 ⟨w1, w3, by simp only [w2, w4]; omega, by simp only [w2]; omega⟩, rfl, M (k := 0) w1 (by simp only [w2]; omega)⟩
            · have e3 : isub .i64 a (2 * b) = a - 2 * b := isub_id (by omega) (by omega)
              rw [ilt_f h4, cond_false, cond_false, put1 (by simp), bd_of, own_eq L4, concat_eq hf (by simp) L3, clone_eq L4, e3]
              have w1 : inW ([a - 2 * b, b] ++ p) = true := inW_cons.2 ⟨⟨by omega, by omega⟩, inW_cons.2 ⟨⟨hb1, hb2⟩, a1'⟩⟩
              have w2 : ([a - 2 * b, b] ++ p).sum = a - 2 * b + (b + p.sum) := by simp
              exact ⟨_, rfl, rfl, weed_iff.2 ⟨w1, b1', by simp only [w2]; omega, by simp only [w2]; omega⟩, rfl, M (k := 0) w1 (by simp only [w2]; omega)⟩
end
end Go.Proofs.YtcbdgkgdopkofaaDoor.AL
