/- Pieces: the program's and the reference's are one. No condition. -/
import Derived.Test.YtbckijeffiofdaaPC2
namespace Go.Proofs.Ytbckijeffiofdaa.AL
open Go Go.Proofs.Ytbckijeffiofdaa.Arch
set_option linter.unusedVariables false
set_option linter.unusedSimpArgs false
section
variable {fu : Nat} {p q : List Int} {b : Bool}
def Small (x : PL) : Prop := x.1.length ≤ 100 ∧ x.2.length ≤ 100
theorem in2 (a c : Int) : inL [a, c] 1 ∧ inL [a, c] 0 := ⟨⟨by omega, by simp⟩, ⟨by omega, by simp⟩⟩
theorem gat2 (a c : Int) : gat 0 [a, c] 1 = c ∧ gat 0 [a, c] 0 = a := ⟨by simp [gat_eq], by simp [gat_eq]⟩
theorem cut_at (hq : p.length = q.length) (hl : p.length ≤ 100) (hf : 100000 < fu) (hr : Joint p) (hu : Joint q) {r : List Int} (hs : Str p q r) :
    ∃ a c : Int, r = [a, c] ∧ ∃ x y : PL, F_spec_siInside fu p q a c = some x ∧ F_impl_Meander_inside fu p q a c = some x ∧ F_spec_siOutside fu p q a c = some y ∧ F_impl_Meander_outside fu p q a c = some y ∧
      Small x ∧ (y.1.length + 2 ≤ p.length ∧ 1 ≤ y.1.length) ∧ y.1.length = y.2.length ∧ Joint y.1 ∧ Joint y.2 := by
  obtain ⟨i, j, rfl, h1, h2, h3, h4, h5, h6⟩ := hs
  obtain ⟨I, rfl⟩ := Int.eq_ofNat_of_zero_le h1
  obtain ⟨J, rfl⟩ := Int.eq_ofNat_of_zero_le (show 0 ≤ j by omega)
  refine ⟨I, J, rfl, ?_⟩
  have hIJ : I ≤ J := by omega
  have hJ : J < p.length := by omega
  obtain ⟨o1, o2⟩ := outside_eq (fu := fu) hIJ hJ hq (by omega) (by omega) h5 hr h6 hu
  obtain ⟨i1, i2⟩ := inside_eq (fu := fu) hIJ hJ hq (by omega) (by omega) h5 hr h6 hu
  refine ⟨_, _, i2, i1, o2, o1, ⟨by simp only [innL_len hIJ]; omega, by simp only [innL_len hIJ]; omega⟩, ?_, ?_, outL_inv hIJ hJ h5 hr, outL_inv hIJ (by omega) h6 hu⟩
  · simp only [outL_len hIJ hJ]; exact ⟨by omega, by omega⟩
  · simp only [outL_len hIJ hJ, outL_len (p := q) hIJ (by omega)]; omega
theorem pieces_L (hf : 100000 < fu) : ∀ (d : Nat) (p q : List Int) (n : Nat) (L : List PL) (r : List Int), p.length ≤ d → d ≤ 100 → d < n → p.length = q.length → Joint p → Joint q → L.length + d ≤ 1000 → (∀ x ∈ L, Small x) → F_spec_siShortest fu p q b = some r →
    ∃ p' q' L' s' R, F_spec_siPieces_L1 fu b n p q L r = some (p', q', L', s') ∧ F_impl_Meander_pieces_L1 fu b n p q L = some (.ret R) ∧ F_spec_l1Own fu p' = some p' ∧ F_spec_l1Own fu q' = some q' ∧ R = lapp L' [(p', q')] ∧ (L'.length ≤ L.length + d ∧ 2 * L'.length + p'.length ≤ 2 * L.length + p.length ∧ (1 ≤ p.length → 1 ≤ p'.length)) ∧ ∀ x ∈ R, Small x := by
  intro d
  induction d with
  | zero =>
    intro p q n L r hp hd hn hq hr hu hL hS hr'
    cases n with
    | zero => omega
    | succ n =>
      obtain ⟨r2, s1, s2, s3⟩ := short_eq (fu := fu) (b := b) hq (by omega) hf
      obtain rfl : r = r2 := Option.some.inj (hr'.symm.trans s1)
      obtain ⟨w1, w2, w3⟩ := whole_eq (fu := fu) hq (by omega) (by omega) hr hu
      rcases s3 with rfl | ⟨i, j, _, h1, h2, h3, _⟩
      · refine ⟨p, q, L, [], lapp L [(p, q)], ?_, ?_, w2, w3, rfl, ⟨by omega, by omega, fun h => h⟩, ?_⟩
        · simp only [F_spec_siPieces_L1]
          rw [ilt_f (by simp [llen]), cond_false]
        · simp only [F_impl_Meander_pieces_L1]
          rw [s2, bd_of, show lemp ([] : List Int) = true from rfl, cond_true, w1, bd_of, gd_t (by omega)]
        · intro x hx
          rcases List.mem_append.1 hx with hx | hx
          · exact hS x hx
          · simp at hx
            subst hx
            exact ⟨by simp only; omega, by simp only; omega⟩
      · omega
  | succ d ih =>
    intro p q n L r hp hd hn hq hr hu hL hS hr'
    cases n with
    | zero => omega
    | succ n =>
      obtain ⟨r2, s1, s2, s3⟩ := short_eq (fu := fu) (b := b) hq (by omega) hf
      obtain rfl : r = r2 := Option.some.inj (hr'.symm.trans s1)
      obtain ⟨w1, w2, w3⟩ := whole_eq (fu := fu) hq (by omega) (by omega) hr hu
      rcases s3 with rfl | s3
      · refine ⟨p, q, L, [], lapp L [(p, q)], ?_, ?_, w2, w3, rfl, ⟨by omega, by omega, fun h => h⟩, ?_⟩
        · simp only [F_spec_siPieces_L1]
          rw [ilt_f (by simp [llen]), cond_false]
        · simp only [F_impl_Meander_pieces_L1]
          rw [s2, bd_of, show lemp ([] : List Int) = true from rfl, cond_true, w1, bd_of, gd_t (by omega)]
        · intro x hx
          rcases List.mem_append.1 hx with hx | hx
          · exact hS x hx
          · simp at hx
            subst hx
            exact ⟨by simp only; omega, by simp only; omega⟩
      · obtain ⟨a, c, rfl, x, y, e1, e2, e3, e4, hx, hy1, hy2, hy3, hy4⟩ := cut_at (fu := fu) hq (by omega) hf hr hu s3
        obtain ⟨r3, t1, t2, t3⟩ := short_eq (fu := fu) (b := b) hy2 (by omega) hf
        obtain ⟨p', q', L', s', R, f1, f2, f3, f4, f5, f6, f7⟩ := ih y.1 y.2 n (lapp L [(x.1, x.2)]) r3 (by omega) (by omega) (by omega) hy2 hy3 hy4 (by simp [lapp]; omega) (fun z hz => by
          rcases List.mem_append.1 hz with hz | hz
          · exact hS z hz
          · simp at hz
            subst hz
            exact hx) t1
        refine ⟨p', q', L', s', R, ?_, ?_, f3, f4, f5, by simp [lapp] at f6; exact ⟨by omega, by omega, fun _ => f6.2.2 hy1.2⟩, f7⟩
        · simp only [F_spec_siPieces_L1]
          simp only [ilt_t (show (0 : Int) < llen [a, c] by simp [llen]), cond_true, gd_t (in2 a c).1, gd_t (in2 a c).2, (gat2 a c).1, (gat2 a c).2, e1, e3, bd_of, t1]
          rw [gd_t (by omega)]
          exact f1
        · simp only [F_impl_Meander_pieces_L1]
          simp only [s2, bd_of, show lemp [a, c] = false from rfl, cond_false, gd_t (in2 a c).1, gd_t (in2 a c).2, (gat2 a c).1, (gat2 a c).2, e2, e4]
          rw [gd_t (by omega)]
          exact f2
theorem pieces_eq (hq : p.length = q.length) (hl : p.length ≤ 100) (hf : 100000 < fu) (hr : Joint p) (hu : Joint q) :
    ∃ R : List PL, F_spec_siPieces fu p q b = some R ∧ F_impl_Meander_pieces fu p q b = some R ∧ R.length ≤ 1000 ∧ (∀ x ∈ R, Small x) ∧ (1 ≤ p.length → 2 * R.length ≤ p.length + 1) := by
  obtain ⟨r, s1, s2, s3⟩ := short_eq (fu := fu) (b := b) hq (by omega) hf
  obtain ⟨w1, w2, w3⟩ := whole_eq (fu := fu) hq (by omega) (by omega) hr hu
  unfold F_spec_siPieces F_impl_Meander_pieces
  rw [s1, s2, bd_of, bd_of]
  rcases s3 with rfl | s3
  · rw [ilt_f (by simp [llen]), cond_false, show lemp ([] : List Int) = true from rfl, cond_true, w1, w2, w3, bd_of, bd_of, bd_of, gd_t (by simp)]
    refine ⟨_, rfl, rfl, by simp [lapp], fun x hx => ?_, fun h => by simp [lapp]; omega⟩
    simp [lapp] at hx
    subst hx
    exact ⟨by simp only; omega, by simp only; omega⟩
  · obtain ⟨a, c, rfl, x, y, e1, e2, e3, e4, hx, hy1, hy2, hy3, hy4⟩ := cut_at (fu := fu) hq (by omega) hf hr hu s3
    obtain ⟨r3, t1, t2, t3⟩ := short_eq (fu := fu) (b := b) hy2 (by omega) hf
    obtain ⟨p', q', L', s', R, f1, f2, f3, f4, f5, f6, f7⟩ := pieces_L (fu := fu) (b := b) hf 100 y.1 y.2 fu (lapp [] [(x.1, x.2)]) r3 (by omega) (by omega) (by omega) hy2 hy3 hy4 (by simp [lapp]) (fun z hz => by
      simp [lapp] at hz
      subst hz
      exact hx) t1
    refine ⟨R, ?_, ?_, ?_, f7, fun h => by
      have f8 := f6.2.2 hy1.2
      simp [lapp] at f6
      rw [f5]
      simp [lapp]
      omega⟩
    · simp only [ilt_t (show (0 : Int) < llen [a, c] by simp [llen]), cond_true, gd_t (in2 a c).1, gd_t (in2 a c).2, (gat2 a c).1, (gat2 a c).2, e1, e3, bd_of, t1]
      rw [gd_t (by simp)]
      simp only [f1, bd_of, f3, f4]
      simp [lapp] at f6
      rw [gd_t (by omega), f5]
    · simp only [show lemp [a, c] = false from rfl, cond_false, gd_t (in2 a c).1, gd_t (in2 a c).2, (gat2 a c).1, (gat2 a c).2, e2, e4, bd_of]
      rw [gd_t (by simp)]
      simp only [f2, bd_of, lr]
    · simp [lapp] at f6
      rw [f5]
      simp [lapp]
      omega
end
end Go.Proofs.Ytbckijeffiofdaa.AL
