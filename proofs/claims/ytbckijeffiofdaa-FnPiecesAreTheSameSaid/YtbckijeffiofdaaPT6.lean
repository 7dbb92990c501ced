/- Texts of pieces: the program's and the reference's are one. No condition. -/
import Derived.Test.YtbckijeffiofdaaPT5
namespace Go.Proofs.Ytbckijeffiofdaa.AL
open Go Go.Proofs.Ytbckijeffiofdaa.Arch
set_option linter.unusedVariables false
set_option linter.unusedSimpArgs false
section
variable {fu : Nat}
def txP (fu : Nat) (x : PL) : ByteArray := (F_impl_meanderText fu x.1 x.2).getD ByteArray.empty
theorem txP_eq {x : PL} (h : Small x) (hf : 1000 < fu) : (txP fu x).size ≤ 201 ∧ F_impl_meanderText fu x.1 x.2 = some (txP fu x) ∧ F_spec_meText fu x.1 x.2 = some (txP fu x) := by
  obtain ⟨s, a, b, c⟩ := meText_eq (fu := fu) h.1 h.2 hf
  unfold txP
  rw [b]
  exact ⟨a, rfl, c⟩
theorem ptI_L {R : List PL} (hR : R.length ≤ 100) (hs : ∀ x ∈ R, Small x) (hf : 1000 < fu) : ∀ (rest pre : List PL) (l : List ByteArray) (k n : Nat), pre ++ rest = R → pre.length = k → rest.length < n → l.length = k →
    F_impl_PieceTexts_L1 fu R (R.length : Int) n l (k : Int) = some (l ++ rest.map (txP fu), (R.length : Int)) := by
  intro rest
  induction rest with
  | nil =>
    intro pre l k n hp hk hn hl
    cases n with
    | zero => simp at hn
    | succ n =>
      have : k = R.length := by rw [← hp, ← hk]; simp
      subst this
      simp only [F_impl_PieceTexts_L1]
      rw [ilt_f (by omega), cond_false]
      simp
  | cons x rest ih =>
    intro pre l k n hp hk hn hl
    cases n with
    | zero => simp at hn
    | succ n =>
      have hlen : k < R.length := by rw [← hp, ← hk]; simp
      have hg : gat pnil R (k : Int) = x := by rw [← hp]; exact gatM hk
      obtain ⟨_, t1, _⟩ := txP_eq (fu := fu) (hs x (by rw [← hp]; simp)) hf
      simp only [F_impl_PieceTexts_L1]
      rw [ilt_t (by omega), cond_true, gd_t (inL_nat hlen), hg, t1, bd_of, gd_t (by simp; omega), iadd_id (by omega) (by omega), show ((k : Int) + 1) = ((k + 1 : Nat) : Int) by omega, ih (pre ++ [x]) _ (k + 1) n (by rw [← hp]; simp) (by simp [hk]) (by simp at hn; omega) (by simp [lapp]; omega)]
      simp [lapp]
theorem ptS_L {R : List PL} (hR : R.length ≤ 100) (hs : ∀ x ∈ R, Small x) (hf : 2000 < fu) : ∀ (rest pre : List PL) (l : List ByteArray) (k n : Nat), pre ++ rest = R → pre.length = k → rest.length < n → l.length = k →
    F_spec_PieceTexts_L1 fu R (R.length : Int) n l (k : Int) = some (allS l (rest.map (txP fu)), (R.length : Int)) := by
  intro rest
  induction rest with
  | nil =>
    intro pre l k n hp hk hn hl
    cases n with
    | zero => simp at hn
    | succ n =>
      have : k = R.length := by rw [← hp, ← hk]; simp
      subst this
      simp only [F_spec_PieceTexts_L1]
      rw [ilt_f (by omega), cond_false]
      rfl
  | cons x rest ih =>
    intro pre l k n hp hk hn hl
    cases n with
    | zero => simp at hn
    | succ n =>
      have hlen : k < R.length := by rw [← hp, ← hk]; simp
      have hg : gat pnil R (k : Int) = x := by rw [← hp]; exact gatM hk
      obtain ⟨_, _, t1⟩ := txP_eq (fu := fu) (hs x (by rw [← hp]; simp)) (by omega)
      obtain ⟨j, j1, j2, j3, j4⟩ := put_eq (fu := fu) (s := txP fu x) (R := R) (a := (R.length : Int)) (b := (k : Int)) (L := l) (by omega) hf
      have hsub : ∀ (a b : Int), (lsub l a b).length ≤ l.length := fun a b => by unfold lsub; simp; omega
      have s1 := hsub 0 j
      have s2 := hsub j (llen l)
      simp only [F_spec_PieceTexts_L1]
      rw [ilt_t (by omega), cond_true, gd_t (inL_nat hlen), hg, t1, bd_of, j1, bd_of, bd_of, gd_t j2, gd_t (by simp; omega), gd_t (by simp [lapp]; omega), gd_t j3, gd_t (by simp [lapp]; omega), j4, iadd_id (by omega) (by omega), show ((k : Int) + 1) = ((k + 1 : Nat) : Int) by omega,
        ih (pre ++ [x]) _ (k + 1) n (by rw [← hp]; simp) (by simp [hk]) (by simp at hn; omega) (by rw [insS_len]; omega)]
      rfl
end
end Go.Proofs.Ytbckijeffiofdaa.AL
