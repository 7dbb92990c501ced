/- Words in which each letter stands twice: they cancel if nothing crosses. No condition. -/
import Derived.Test.YtdbflchpbhkanaaPD2
namespace Go.Proofs.Ytdbflchpbhkanaa.AL
open Go
set_option linter.unusedVariables false
set_option linter.unusedSimpArgs false
theorem tw_eq {x : Int} {t : List Int} : ∀ {m : List Int}, x ∉ m → (m ++ x :: t).takeWhile (fun z => z != x) = m
  | [], _ => by simp
  | z :: m, h => by
    have hz : z ≠ x := fun e => h (e ▸ .head _)
    rw [List.cons_append, List.takeWhile_cons, if_pos (by simp [hz]), tw_eq (fun e => h (.tail _ e))]
theorem first_split {x : Int} : ∀ {r : List Int}, x ∈ r → ∃ m t, r = m ++ x :: t ∧ x ∉ m
  | z :: r, h => by
    by_cases e : z = x
    · exact ⟨[], r, by rw [e]; rfl, by simp⟩
    · obtain ⟨m, t, e1, e2⟩ := first_split (r := r) (by rcases List.mem_cons.1 h with h | h; exact absurd h.symm e; exact h)
      exact ⟨z :: m, t, by rw [e1]; rfl, fun h => by rcases List.mem_cons.1 h with h | h; exact e h.symm; exact e2 h⟩
end Go.Proofs.Ytdbflchpbhkanaa.AL
