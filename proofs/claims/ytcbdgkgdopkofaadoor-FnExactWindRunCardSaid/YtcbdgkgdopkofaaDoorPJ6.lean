/- The law WindRun holds. No condition. -/
import Derived.Test.YtcbdgkgdopkofaaDoorPJ5
import Derived.Test.YtcbdgkgdopkofaaDoorG1
import Derived.Test.YtcbdgkgdopkofaaDoorG2
import Derived.Test.YtcbdgkgdopkofaaDoorG3
import Derived.Test.YtcbdgkgdopkofaaDoorG4
import Derived.Test.YtcbdgkgdopkofaaDoorG5
import Derived.Test.YtcbdgkgdopkofaaDoorG6
import Derived.Test.YtcbdgkgdopkofaaDoorG7
import Derived.Test.YtcbdgkgdopkofaaDoorG8
namespace Go.Proofs.YtcbdgkgdopkofaaDoor.AL
open Go
set_option linter.unusedVariables false
set_option linter.unusedSimpArgs false
section
variable {fu : Nat} {p q : List Int}
theorem ilt_len : ilt 0 (llen p) = decide (1 ≤ p.length) := by
  rw [ilt_eq]
  simp only [llen]
  apply decide_eq_decide.2
  omega
theorem runs (hf : 20 < fu) : ∀ (n : Nat) (p q : List Int), weedB p q = true → meas p q < n → ∃ Z : List PL, Z.length ≤ meas p q ∧ (∀ z ∈ Z, weedB z.1 z.2 = true) ∧
    (∀ (m : Nat) (Y : List PL) (w : ByteArray), n ≤ m → Y.length + Z.length ≤ 1000 → w.size + Z.length ≤ 1000 → ∃ w', run_L fu m p q Y w = some (Y ++ Z, w')) ∧
    (∀ (m : Nat) (o : List ByteArray), n ≤ m → o.length + Z.length ≤ 1000 → ∃ s, F_spec_WindRun_L1 fu m p q o = some s ∧ s.2.2 = o ++ Z.map fun z => sw2T z.1 z.2) := by
  intro n
  induction n with
  | zero => intro p q _ h; omega
  | succ n ih =>
    intro p q hw hm
    by_cases hp : 1 ≤ p.length
    · obtain ⟨S, e1, e2, e3, e4, e5⟩ := step_ok (fu := fu) hw hp (by omega)
      obtain ⟨Z, z1, z2, z3, z4⟩ := ih S.1.1 S.1.2 e3 (by omega)
      refine ⟨S.1 :: Z, by rw [List.length_cons]; omega, fun z hz => ?_, fun m Y w hnm hY hW => ?_, fun m o hnm ho => ?_⟩
      · rcases List.mem_cons.1 hz with rfl | hz
        · exact e3
        · exact z2 z hz
      · rw [List.length_cons] at hY hW
        obtain ⟨m, rfl⟩ : ∃ k, m = k + 1 := ⟨m - 1, by omega⟩
        obtain ⟨w', h⟩ := z3 m (Y ++ [S.1]) (sapp w S.2) (by omega) (by simp; omega) (by rw [sapp_size]; omega)
        refine ⟨w', ?_⟩
        simp only [run_L]
        rw [ilt_len, decide_eq_true hp, cond_true, e2, bd_of, gd_t (by omega), gd_t (by omega), h]
        simp
      · rw [List.length_cons] at ho
        obtain ⟨m, rfl⟩ : ∃ k, m = k + 1 := ⟨m - 1, by omega⟩
        obtain ⟨s, h, hs⟩ := z4 m (lapp o [sw2T S.1.1 S.1.2]) (by omega) (by simp [lapp]; omega)
        refine ⟨s, ?_, ?_⟩
        · simp only [F_spec_WindRun_L1]
          rw [ilt_len, decide_eq_true hp, cond_true, e1, bd_of, swText_eq e3 hf, bd_of, gd_t (by simp; omega), h]
        · rw [hs]
          simp [lapp]
    · refine ⟨[], by simp, fun z hz => by simp at hz, fun m Y w hnm hY hW => ⟨w, ?_⟩, fun m o hnm ho => ⟨(p, q, o), ?_, by simp⟩⟩
      · obtain ⟨m, rfl⟩ : ∃ k, m = k + 1 := ⟨m - 1, by omega⟩
        simp only [run_L]
        rw [ilt_len, decide_eq_false hp, cond_false]
        simp
      · obtain ⟨m, rfl⟩ : ∃ k, m = k + 1 := ⟨m - 1, by omega⟩
        simp only [F_spec_WindRun_L1]
        rw [ilt_len, decide_eq_false hp, cond_false]
theorem textsL_eq (hf : 20 < fu) : ∀ (Z : List PL) (o : List ByteArray), (∀ z ∈ Z, weedB z.1 z.2 = true) → o.length + Z.length ≤ 1000 → textsL fu Z o = some (o ++ Z.map fun z => sw2T z.1 z.2)
  | [], o, _, _ => by simp [textsL]
  | z :: Z, o, h, hl => by
    rw [List.length_cons] at hl
    simp only [textsL]
    rw [seaweedText_eq (h z (by simp)) hf, bd_of, gd_t (by simp; omega), textsL_eq hf Z _ (fun y hy => h y (by simp [hy])) (by simp [lapp]; omega)]
    simp [lapp]
theorem meas_le (h : weedB p q = true) : meas p q ≤ 41 := by
  obtain ⟨a1, b1, c, a3⟩ := weed_iff.1 h
  unfold meas
  split <;> omega
theorem specRun_eq (h : weedB p q = true) (hf : 20 < fu) : F_spec_WindRun fu p q = bd (F_spec_WindRun_L1 fu (fu + 1) p q [sw2T p q]) fun s => some (s.2.2, true) := by
  unfold F_spec_WindRun
  simp only [F_spec_WindRun_L1]
  rw [swGood_eq hf, bd_of, h, show bnot true = false from rfl, cond_false, swText_eq h hf, bd_of]
  by_cases hp : 1 ≤ p.length
  · rw [ilt_len, decide_eq_true hp, cond_true, cond_true]
    obtain ⟨S, e1, e2, e3, e4, e5⟩ := step_ok (fu := fu) h hp (by omega)
    rw [e1, bd_of, bd_of, swText_eq e3 hf, bd_of, bd_of, gd_t (by simp), gd_t (by simp)]
  · rw [ilt_len, decide_eq_false hp, cond_false, cond_false, bd_of]
theorem windRun_eq (hf : 60 < fu) : ∃ S, F_spec_WindRun fu p q = some S ∧ F_impl_WindRun fu p q = some S ∧ S.1.length ≤ 42 := by
  cases h : weedB p q with
  | false =>
    refine ⟨([], false), ?_, ?_, by simp⟩
    · unfold F_spec_WindRun
      rw [swGood_eq (by omega), bd_of, h]
      rfl
    · unfold F_impl_WindRun
      rw [isWeed_eq (by omega), bd_of, h]
      rfl
  | true =>
    have hm := meas_le h
    obtain ⟨Z, z1, z2, z3, z4⟩ := runs (fu := fu) (by omega) 42 p q h (by omega)
    obtain ⟨w1, k1⟩ := z3 fu [] (ByteArray.mk #[]) (by omega) (by simp; omega) (by show 0 + _ ≤ _; omega)
    obtain ⟨s2, k4, k5⟩ := z4 (fu + 1) [sw2T p q] (by omega) (by simp; omega)
    refine ⟨(sw2T p q :: Z.map fun z => sw2T z.1 z.2, true), ?_, ?_, by simp; omega⟩
    · rw [specRun_eq h (by omega), k4, bd_of, k5]
      rfl
    · unfold F_impl_WindRun F_impl_Seaweed_run
      rw [isWeed_eq (by omega), bd_of, h, show bnot true = false from rfl, cond_false, k1, bd_of, gd_t (by simp; omega), textsL_eq (by omega) _ _ (fun z hz => ?_) (by simp; omega), bd_of]
      · simp
      · simp at hz
        rcases hz with rfl | hz
        · exact h
        · exact z2 z hz
theorem law_WindRun {a b : List Int} (ha : a.length ≤ 9223372036854775807) (hb : b.length ≤ 9223372036854775807) : F_laws_FnExactWindRun 2000000 a b = some true := by
  unfold F_laws_FnExactWindRun
  rw [szSeaweed_eq (by omega) (by omega) ha hb, bd_of]
  by_cases h1 : (a.length : Int) + (b.length : Int) ≤ 1048576
  · rw [if_pos h1, ilt_f (by omega), cond_false]
    have t1 := toSeaweed_eq (fu := 2000000) (a := a) (b := b) (by omega) (by omega) (by omega)
    have q1 := eqSeaweed_eq (fu := 2000000) (a := a) (b := b) (by omega) (by omega) (by omega)
    obtain ⟨S, e1, e2, l1⟩ := windRun_eq (fu := 2000000) (p := a) (q := b) (by omega)
    have q2 := eqT_eq (X := S.1) (by omega)
    have m0 := markSeaweed_eq (fu := 2000000) (a := a) (b := b) (m := 1) (by omega) (by omega) (by omega) (by omega) (by omega)
    have m1 := markT_eq (X := S.1) (by omega)
    have h3 := heldT_eq (d := S.1.length) (by omega)
    have n1 : ilt (1 + (a.length : Int) + (b.length : Int)) 0 = false := ilt_f (by omega)
    have n2 : ilt (1 + (S.1.length : Int)) 0 = false := ilt_f (by omega)
    simp [t1, q1, q2, m0, m1, h3, e1, e2, n1, n2, bnot, bne', sne', ine_eq]
  · rw [if_neg h1, ilt_t (by omega), cond_true]
end
end Go.Proofs.YtcbdgkgdopkofaaDoor.AL
