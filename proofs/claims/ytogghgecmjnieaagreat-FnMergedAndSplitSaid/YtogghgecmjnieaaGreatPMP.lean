/- Paths to few and to many curves. No condition. -/
import Derived.Test.YtogghgecmjnieaaGreatPXP
namespace Go.Proofs.YtogghgecmjnieaaGreat.AL
open Go Go.Proofs.YtogghgecmjnieaaGreat.Arch
set_option linter.unusedVariables false
set_option linter.unusedSimpArgs false
set_option maxRecDepth 100000
section
variable {fu : Nat} {p q : List Int}
theorem exm_L {b : List Int} (hb : b.length ≤ 1048576) {X : List (List Int)} (hX : X.length ≤ 2000) : ∀ (rest pre : List (List Int)) (l : List PL) (k m : Nat), pre ++ rest = X → pre.length = k → rest.length < m → l.length ≤ k →
  F_spec_exMeanders_L1 fu b X (X.length : Int) m l (k : Int) = some (l ++ rest.map fun r => (r, b), (X.length : Int)) := by
 intro rest
 induction rest with
 | nil =>
  intro pre l k m hp hk hm hl
  cases m with
  | zero => simp at hm
  | succ m =>
   have : k = X.length := by rw [← hp, ← hk]; simp
   subst this
   simp only [F_spec_exMeanders_L1]
   rw [ilt_f (by omega), cond_false]
   simp
 | cons x rest ih =>
  intro pre l k m hp hk hm hl
  cases m with
  | zero => simp at hm
  | succ m =>
   have hlen : k < X.length := by rw [← hp, ← hk]; simp
   have hg : gat [] X (k : Int) = x := by rw [← hp]; subst hk; simp [gat_eq]
   simp only [F_spec_exMeanders_L1]
   rw [ilt_t (by omega), cond_true, gd_t (inL_nat hlen), gd_t (by omega), hg, own_eq hb, bd_of, gd_t (by omega), iadd_id (by omega) (by omega), show ((k : Int) + 1) = ((k + 1 : Nat) : Int) by omega,
    ih (pre ++ [x]) (lapp l [(x, b)]) (k + 1) m (by rw [← hp]; simp) (by simp [hk]) (by simp at hm; omega) (by simp [lapp]; omega)]
   simp [lapp]
theorem exm_eq {b : List Int} (hb : b.length ≤ 1048576) {X : List (List Int)} (hX : X.length ≤ 2000) (hf : 3000 < fu) : F_spec_exMeanders fu X b = some (X.map fun r => (r, b)) := by
 unfold F_spec_exMeanders
 have := exm_L (fu := fu) hb hX X [] [] 0 fu rfl rfl (by omega) (Nat.le_refl _)
 rw [Int.natCast_zero] at this
 simp only [llen]
 rw [this, bd_of]
 rfl
theorem tpath_L {a b : List Int} (hb : b.length ≤ 1048576) {X : List (List Int)} (hX : X.length ≤ 2000) : ∀ (rest pre : List (List Int)) (l : List PL) (k m : Nat), pre ++ rest = X → pre.length = k → rest.length < m → l.length ≤ k →
  F_impl_turnedPath_L1 fu a b X (X.length : Int) m l (k : Int) = some (l ++ rest.map fun r => (r, b), (X.length : Int)) := by
 intro rest
 induction rest with
 | nil =>
  intro pre l k m hp hk hm hl
  cases m with
  | zero => simp at hm
  | succ m =>
   have : k = X.length := by rw [← hp, ← hk]; simp
   subst this
   simp only [F_impl_turnedPath_L1]
   rw [ilt_f (by omega), cond_false]
   simp
 | cons x rest ih =>
  intro pre l k m hp hk hm hl
  cases m with
  | zero => simp at hm
  | succ m =>
   have hlen : k < X.length := by rw [← hp, ← hk]; simp
   have hg : gat [] X (k : Int) = x := by rw [← hp]; subst hk; simp [gat_eq]
   simp only [F_impl_turnedPath_L1]
   rw [ilt_t (by omega), cond_true, gd_t (inL_nat hlen), gd_t (by omega), hg, clone_eq hb, bd_of, gd_t (by omega), iadd_id (by omega) (by omega), show ((k : Int) + 1) = ((k + 1 : Nat) : Int) by omega,
    ih (pre ++ [x]) (lapp l [(x, b)]) (k + 1) m (by rw [← hp]; simp) (by simp [hk]) (by simp at hm; omega) (by simp [lapp]; omega)]
   simp [lapp]
theorem tpath_eq {a b : List Int} {T : Int} (hb : b.length ≤ 1048576) {X : List (List Int)} (hX : X.length ≤ 2000) (h : F_impl_path 2000000 a b T = some X) : F_impl_turnedPath 2000000 a b T = some (X.map fun r => (r, b)) := by
 unfold F_impl_turnedPath
 have := tpath_L (fu := 2000000) (a := a) hb hX X [] [] 0 2000000 rfl rfl (by omega) (Nat.le_refl _)
 rw [Int.natCast_zero] at this
 rw [h, bd_of]
 simp only [llen]
 rw [this, bd_of]
 rfl
end
end Go.Proofs.YtogghgecmjnieaaGreat.AL
