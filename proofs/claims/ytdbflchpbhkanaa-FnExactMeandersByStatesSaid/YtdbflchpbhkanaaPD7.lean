/- The program's word on states is the reference's. No condition. -/
import Derived.Test.YtdbflchpbhkanaaPD6
namespace Go.Proofs.Ytdbflchpbhkanaa.AL
open Go
set_option linter.unusedVariables false
set_option linter.unusedSimpArgs false
section
variable {fu : Nat} {x y : List Int}
theorem grow_eq {n : Int} (h0 : 0 ≤ n) (h1 : n ≤ 1000000) : F_slices_Grow_Sint fu n = some [] := by
  unfold F_slices_Grow_Sint
  rw [ilt_f (by omega), cond_false, bd_of, isub_id (a := 0) (by omega) (by omega), isub_id (by omega) (by omega)]
  by_cases h : 0 < n
  · rw [ilt_t (by omega), cond_true, gd_t (by omega), gd_t (subL_mk (by omega) (by omega) (by omega))]
    simp [lsub]
  · rw [ilt_f (by omega), cond_false]
theorem concat_eq (hf : 10 < fu) (hx : x.length ≤ 100000) (hy : y.length ≤ 100000) : F_slices_Concat_Sint fu [x, y] = some (x ++ y) := by
  obtain ⟨n, rfl⟩ : ∃ n, fu = n + 1 + 1 + 1 + 1 := ⟨fu - 4, by omega⟩
  have g0 : gat [] [x, y] 0 = x := by simp [gat_eq]
  have g1 : gat [] [x, y] 1 = y := by simp [gat_eq]
  have b1 : iadd .i64 0 1 = 1 := iadd_id (by omega) (by omega)
  have b2 : iadd .i64 1 1 = 2 := iadd_id (by omega) (by omega)
  have i0 : inL [x, y] 0 := ⟨by omega, by simp⟩
  have i1 : inL [x, y] 1 := ⟨by omega, by simp⟩
  have a1 : iadd .i64 0 (x.length : Int) = (x.length : Int) := by rw [iadd_id (by omega) (by omega)]; omega
  have a2 : iadd .i64 (x.length : Int) (y.length : Int) = (x.length : Int) + (y.length : Int) := iadd_id (by omega) (by omega)
  have l1 : F_slices_Concat_Sint_L1 (n + 1 + 1 + 1 + 1) [x, y] 2 (n + 1 + 1 + 1 + 1) 0 0 = some ((x.length : Int) + (y.length : Int), 2) := by
    simp only [F_slices_Concat_Sint_L1, llen]
    rw [ilt_t (by omega), cond_true, gd_t i0, g0, a1, ilt_f (by omega), cond_false, b1]
    rw [ilt_t (by omega), cond_true, gd_t i1, g1, a2, ilt_f (by omega), cond_false, b2]
    rw [ilt_f (by omega), cond_false]
  have l2 : F_slices_Concat_Sint_L2 (n + 1 + 1 + 1 + 1) [x, y] 2 (n + 1 + 1 + 1 + 1) [] 0 = some (x ++ y, 2) := by
    simp only [F_slices_Concat_Sint_L2]
    rw [ilt_t (by omega), cond_true, gd_t i0, g0, gd_t (by simp; omega), b1]
    rw [ilt_t (by omega), cond_true, gd_t i1, g1, gd_t (by simp [lapp]; omega), b2]
    rw [ilt_f (by omega), cond_false]
    simp [lapp]
  unfold F_slices_Concat_Sint
  rw [show llen [x, y] = 2 from rfl, l1, bd_of]
  simp only
  rw [grow_eq (by omega) (by omega), bd_of, l2, bd_of]
end
section
variable {fu : Nat} {x : Int} {xs ys : List Int}
end
end Go.Proofs.Ytdbflchpbhkanaa.AL
