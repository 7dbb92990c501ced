/- What the draws of this law answer. No condition. -/
import Derived.Test.YtbckijeffiofdaaPDS
import Derived.Test.YtbckijeffiofdaaG1
import Derived.Test.YtbckijeffiofdaaG2
import Derived.Test.YtbckijeffiofdaaG3
import Derived.Test.YtbckijeffiofdaaG4
import Derived.Test.YtbckijeffiofdaaG5
import Derived.Test.YtbckijeffiofdaaG6
import Derived.Test.YtbckijeffiofdaaG7
import Derived.Test.YtbckijeffiofdaaG8
import Derived.Test.YtbckijeffiofdaaG9
import Derived.Test.YtbckijeffiofdaaG10
import Derived.Test.YtbckijeffiofdaaG11
import Derived.Test.YtbckijeffiofdaaG12
import Derived.Test.YtbckijeffiofdaaG13
import Derived.Test.YtbckijeffiofdaaG14
import Derived.Test.YtbckijeffiofdaaG15
import Derived.Test.YtbckijeffiofdaaG16
import Derived.KernelRfl
namespace Go.Proofs.Ytbckijeffiofdaa.AL
open Go Go.Proofs.Ytbckijeffiofdaa.Arch
set_option linter.unusedVariables false
set_option linter.unusedSimpArgs false
set_option maxRecDepth 100000
section
variable {fu : Nat} {x : List Int}
theorem drawClosed_ok (w : Bytes x) (hf : 100000 < fu) : ∃ (p q : List Int) (i j : Int), F_spec_DrawIsClosed fu x = some ((p, q), i, j) ∧ Brief (p, q) ∧ -1 ≤ i ∧ i ≤ 100 ∧ -1 ≤ j ∧ j ≤ 4611686018427388000 := by
  unfold F_spec_DrawIsClosed
  obtain ⟨b, a1, s1, e1, g0, g1, hb⟩ := patched_ok (fu := fu) w (by omega)
  obtain ⟨p, q⟩ := b
  have hb1 : p.length ≤ 14 := hb.1
  rw [e1, bd_of]
  simp only
  rw [mePair_go hb (by omega), bd_of]
  have last : ∀ (a s : Int), 0 ≤ a → a ≤ 2000 → ∃ (p' q' : List Int) (i j : Int), (bd (F_spec_l1Cur_pick fu x a s (iadd .i64 (llen p) 2)) fun r6 => bd (F_spec_l1Cur_among fu x r6.2.1 r6.2.2 [1, 1, 3, 2, 0, 5, 4611686018427387904]) fun r7 => some ((p, q), (isub .i64 r6.1 1), (iadd .i64 (isub .i64 r6.1 1) r7.1))) = some ((p', q'), i, j) ∧ Brief (p', q') ∧ -1 ≤ i ∧ i ≤ 100 ∧ -1 ≤ j ∧ j ≤ 4611686018427388000 := by
    intro a s h0 h1
    obtain ⟨i, a2, s2, e2, t0, t1, t2, t3⟩ := pick_ok (fu := fu) (seed := s) (n := iadd .i64 (llen p) 2) (at' := a) w h0 (by omega)
    rw [iadd_id (by simp only [llen]; omega) (by simp only [llen]; omega)] at t3
    simp only [llen] at t3
    rw [e2, bd_of]
    simp only
    obtain ⟨c, a3, s3, e3, u0, u1, u2⟩ := among_ok (fu := fu) (seed := s2) (l := [1, 1, 3, 2, 0, 5, 4611686018427387904]) (at' := a2) w (by omega) (by omega) (by simp)
    rw [e3, bd_of]
    simp only
    have hc : 0 ≤ c ∧ c ≤ 4611686018427387904 := by
      simp only [List.mem_cons, List.not_mem_nil, or_false] at u2
      omega
    rw [isub_id (by omega) (by omega), iadd_id (by omega) (by omega)]
    exact ⟨_, _, _, _, rfl, hb, by omega, by omega, by omega, by omega⟩
  cases hg : goodP p q
  · rw [cond_false, bd_of, cond_false]
    exact last a1 s1 g0 (by omega)
  · obtain ⟨o, a2, s2, e2, u0, u1⟩ := one_ok (fu := fu) (seed := s1) (n := 2) (at' := a1) w (by omega) (by omega)
    rw [cond_true, e2, bd_of, bd_of]
    cases o
    · rw [cond_false]
      exact last a2 s2 (by omega) (by omega)
    · obtain ⟨b1, b2, _⟩ := good_of hg
      obtain ⟨S, e3, hS, hT⟩ := siAll_eq (fu := fu) (p := p) (q := q) b1 (by omega) (by omega)
      rw [cond_true, e3, bd_of]
      by_cases hl : 0 < S.length
      · rw [ilt_t (by simp only [llen]; omega), cond_true]
        obtain ⟨i, a3, s3, e4, t0, t1, t2, t3⟩ := pick_ok (fu := fu) (seed := s2) (n := llen S) (at' := a2) w (by omega) (by omega)
        simp only
        rw [e4, bd_of]
        simp only
        have hi : inL S i := ⟨t2, by have t4 : i < (S.length : Int) ∨ i = 0 := t3; omega⟩
        obtain ⟨y, z, hr, y0, y1, y2, _⟩ := hT _ (List.mem_of_getElem? (gat_get (d := []) hi))
        rw [gd_t hi, hr, gd_t (in2 y z).2, gd_t (in2 y z).1, (gat2 y z).1, (gat2 y z).2]
        exact ⟨_, _, _, _, rfl, hb, by omega, by omega, by omega, by omega⟩
      · rw [ilt_f (by simp only [llen]; omega), cond_false]
        exact last a2 s2 (by omega) (by omega)
theorem drawInside_ok (w : Bytes x) (hf : 100000 < fu) : ∃ (p q : List Int) (i j : Int), F_spec_DrawInsideOf fu x = some ((p, q), i, j) ∧ Brief (p, q) ∧ -1 ≤ i ∧ i ≤ 100 ∧ -1 ≤ j ∧ j ≤ 4611686018427388000 := by
  obtain ⟨p, q, i, j, e, h⟩ := drawClosed_ok (fu := fu) w hf
  unfold F_spec_DrawInsideOf
  rw [e, bd_of]
  exact ⟨p, q, i, j, rfl, h⟩
theorem drawInsert_ok (w : Bytes x) (hf : 100000 < fu) : ∃ (p q : List Int) (i : Int) (r t : List Int), F_spec_DrawInsertPair fu x = some ((p, q), i, (r, t)) ∧ Brief (p, q) ∧ Brief (r, t) ∧ -1 ≤ i ∧ i ≤ 100 := by
  unfold F_spec_DrawInsertPair
  obtain ⟨b, a1, s1, e1, g0, g1, hb⟩ := pair_ok (fu := fu) (seed := 0) (n := 4) (at' := 0) (by omega) (by omega) w (by omega) (by omega) (by omega)
  obtain ⟨p, q⟩ := b
  have hb1 : p.length ≤ 14 := hb.1
  rw [e1, bd_of]
  simp only
  obtain ⟨i, a2, s2, e2, t0, t1, t2, t3⟩ := pick_ok (fu := fu) (seed := s1) (n := iadd .i64 (llen p) 3) (at' := a1) w g0 (by omega)
  rw [iadd_id (by simp only [llen]; omega) (by simp only [llen]; omega)] at t3
  simp only [llen] at t3
  rw [e2, bd_of]
  simp only
  obtain ⟨c, a3, s3, e3, u0, u1, u2⟩ := among_ok (fu := fu) (seed := s2) (l := [1, 2, 3]) (at' := a2) w (by omega) (by omega) (by simp)
  rw [e3, bd_of]
  simp only
  have hc : 0 ≤ c ∧ c ≤ 6 := by
    simp only [List.mem_cons, List.not_mem_nil, or_false] at u2
    omega
  obtain ⟨b2, a4, s4, e4, v0, v1, hb2⟩ := pair_ok (fu := fu) (seed := s3) (n := c) (at' := a3) hc.1 hc.2 w (by omega) (by omega) (by omega)
  rw [e4, bd_of, isub_id (by omega) (by omega)]
  exact ⟨p, q, _, b2.1, b2.2, rfl, hb, hb2, by omega, by omega⟩
theorem drawStretches_ok (w : Bytes x) (hf : 100000 < fu) : ∃ (p q : List Int), F_spec_DrawClosedStretches fu x = some (p, q) ∧ Brief (p, q) := by
  unfold F_spec_DrawClosedStretches
  obtain ⟨b, a1, s1, e1, g0, g1, hb⟩ := patched_ok (fu := fu) w (by omega)
  rw [e1, bd_of]
  exact ⟨b.1, b.2, rfl, hb⟩
end
end Go.Proofs.Ytbckijeffiofdaa.AL
