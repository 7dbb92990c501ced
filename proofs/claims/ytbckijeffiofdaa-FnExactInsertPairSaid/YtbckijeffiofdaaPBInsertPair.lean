/- Insertion: the program's and the reference's are one, and the law holds. No condition. -/
import Derived.Test.YtbckijeffiofdaaPA5
import Derived.Test.YtbckijeffiofdaaPBIns
namespace Go.Proofs.Ytbckijeffiofdaa.AL
open Go Go.Proofs.Ytbckijeffiofdaa.Arch
set_option linter.unusedVariables false
set_option linter.unusedSimpArgs false
set_option maxRecDepth 100000
theorem insertPair_eq {p q r s : List Int} {k : Int} (hp : p.length ≤ 1048576) (hq : q.length ≤ 1048576) (hr : r.length ≤ 1048576) (hs : s.length ≤ 1048576) :
    ∃ S, F_spec_InsertPair 2000000 p q k r s = some S ∧ F_impl_InsertPair 2000000 p q k r s = some S ∧ S.1.1.length ≤ 12 ∧ S.1.2.length ≤ 12 := by
  unfold F_spec_InsertPair F_impl_InsertPair
  rw [mePair_eq (by omega) (by omega) (by omega) (by omega), IsPair_eq (by omega) (by omega) (by omega) (by omega), mePair_eq (by omega) (by omega) (by omega) (by omega), IsPair_eq (by omega) (by omega) (by omega) (by omega)]
  simp only [bd_of, l1In_eq, in_eq]
  have no : ∃ S : (List Int × List Int) × Bool, some ((([] : List Int), ([] : List Int)), false) = some S ∧ some ((([] : List Int), ([] : List Int)), false) = some S ∧ S.1.1.length ≤ 12 ∧ S.1.2.length ≤ 12 := ⟨_, rfl, rfl, by simp, by simp⟩
  cases h1 : ((sysB p && sysB q) && decide (p.length = q.length))
  · exact no
  · rw [show bnot true = false from rfl, cond_false]
    cases h2 : ((sysB r && sysB s) && decide (r.length = s.length))
    · exact no
    · rw [show bnot true = false from rfl, cond_false]
      cases h3 : (decide (0 ≤ k) && decide (k ≤ llen p))
      · exact no
      · rw [show bnot true = false from rfl, cond_false, bd_of]
        simp only [llen, iadd_id (a := (p.length : Int)) (b := (r.length : Int)) (by omega) (by omega)]
        by_cases h4 : (12 : Int) < (p.length : Int) + (r.length : Int)
        · rw [ilt_t h4]
          exact no
        · rw [ilt_f h4]
          simp only [cond_false]
          simp only [Bool.and_eq_true, decide_eq_true_eq] at h1 h2 h3
          have h3' : k ≤ (p.length : Int) := h3.2
          obtain ⟨a, a1, a2, a3⟩ := ins_eq (k := k) h1.1.1 h2.1.1 (by omega) h3.1 h3'
          obtain ⟨b, b1, b2, b3⟩ := ins_eq (k := k) h1.1.2 h2.1.2 (by omega) h3.1 (by omega)
          rw [a1, a2, b1, b2]
          exact ⟨_, rfl, rfl, a3, b3⟩
theorem law_InsertPair {a b c d : List Int} {k : Int} (ha : a.length ≤ 9223372036854775807) (hb : b.length ≤ 9223372036854775807) (_ : (Lit.int .i64 k).wf = true) (hc : c.length ≤ 9223372036854775807) (hd : d.length ≤ 9223372036854775807) :
    F_laws_FnExactInsertPair 2000000 a b k c d = some true := by
  unfold F_laws_FnExactInsertPair
  rw [szMeander_eq (by omega) (by omega) ha hb, bd_of]
  by_cases h1 : (a.length : Int) + (b.length : Int) ≤ 1048576
  · rw [if_pos h1, ilt_f (by omega), cond_false, szMeander_eq (by omega) (by omega) hc hd, bd_of]
    by_cases h2 : (c.length : Int) + (d.length : Int) ≤ 1048576 - (a.length : Int) - (b.length : Int)
    · rw [if_pos h2, ilt_f (by omega), cond_false]
      obtain ⟨S, e1, e2, l1, l2⟩ := insertPair_eq (p := a) (q := b) (r := c) (s := d) (k := k) (by omega) (by omega) (by omega) (by omega)
      have t1 := toMeander_eq (fu := 2000000) (a := a) (b := b) (by omega) (by omega) (by omega)
      have t2 := toMeander_eq (fu := 2000000) (a := c) (b := d) (by omega) (by omega) (by omega)
      have q1 := eqMeander_eq (fu := 2000000) (a := a) (b := b) (by omega) (by omega) (by omega)
      have q2 := eqMeander_eq (fu := 2000000) (a := c) (b := d) (by omega) (by omega) (by omega)
      have q3 := eqMeander_eq (fu := 2000000) (a := S.1.1) (b := S.1.2) (by omega) (by omega) (by omega)
      have m1 := markMeander_eq (fu := 2000000) (a := a) (b := b) (m := 1) (by omega) (by omega) (by omega) (by omega) (by omega)
      have m2 := markMeander_eq (fu := 2000000) (a := c) (b := d) (m := 1 + (a.length : Int) + (b.length : Int)) (by omega) (by omega) (by omega) (by omega) (by omega)
      have m3 := markMeander_eq (fu := 2000000) (a := S.1.1) (b := S.1.2) (m := 1) (by omega) (by omega) (by omega) (by omega) (by omega)
      have h3 := heldMeander_eq (fu := 2000000) (m := 1) (la := S.1.1.length) (lb := S.1.2.length) (by omega) (by omega) (by omega) (by omega) (by omega)
      have n1 : ilt (1 + (a.length : Int) + (b.length : Int) + (c.length : Int) + (d.length : Int)) 0 = false := ilt_f (by omega)
      have n2 : ilt (1 + (S.1.1.length : Int) + (S.1.2.length : Int)) 0 = false := ilt_f (by omega)
      simp [t1, t2, q1, q2, q3, m1, m2, m3, h3, e1, e2, n1, n2, bnot, bne', ine_eq]
    · rw [if_neg h2, ilt_t (by omega), cond_true]
  · rw [if_neg h1, ilt_t (by omega), cond_true]
end Go.Proofs.Ytbckijeffiofdaa.AL
