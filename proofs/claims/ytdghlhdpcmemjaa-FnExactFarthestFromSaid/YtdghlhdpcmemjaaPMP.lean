/- Paths to few and to many curves: the laws MergePath and SplitPath. No condition. -/
import Derived.Test.YtdghlhdpcmemjaaPXP
import Derived.Test.YtdghlhdpcmemjaaPPM
namespace Go.Proofs.Ytdghlhdpcmemjaa.AL
open Go Go.Proofs.Ytdghlhdpcmemjaa.Arch
set_option linter.unusedVariables false
set_option linter.unusedSimpArgs false
set_option maxRecDepth 100000
theorem colTo_step {p q : List Int} (s : List Int × Nat) (i : Nat) : s.2 ≤ (colStep p q s i).2 := by
  unfold colStep
  split
  · exact Nat.le_refl _
  · exact Nat.le_succ _
theorem colTo_pos {p q : List Int} (h : 0 < p.length) : ∀ k, 1 ≤ (colTo p q (k + 1)).2 := by
  intro k
  induction k with
  | zero =>
    rw [colTo_succ]
    have h0 : colTo p q 0 = (List.replicate p.length (-1), 0) := rfl
    rw [h0]
    unfold colStep
    rw [if_neg]
    · exact Nat.le_refl _
    · obtain ⟨m, hm⟩ : ∃ m, p.length = m + 1 := ⟨p.length - 1, by omega⟩
      rw [hm]
      simp [List.replicate_succ, gt]
  | succ k ih =>
    rw [colTo_succ]
    exact Nat.le_trans ih (colTo_step _ _)
section
variable {fu : Nat} {p q : List Int}
theorem cmp_pos (h : 0 < p.length) : 1 ≤ cmpV p q := by
  obtain ⟨m, hm⟩ : ∃ m, p.length = m + 1 := ⟨p.length - 1, by omega⟩
  have := colTo_pos (p := p) (q := q) h m
  unfold cmpV
  rw [hm]
  omega
end
end Go.Proofs.Ytdghlhdpcmemjaa.AL
