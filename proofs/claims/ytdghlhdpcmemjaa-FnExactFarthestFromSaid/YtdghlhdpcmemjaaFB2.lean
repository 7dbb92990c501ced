/- The laws' own lists: copies and marks. No condition. -/
import Derived.Test.YtdghlhdpcmemjaaFB1
namespace Go.Proofs.Ytdghlhdpcmemjaa.AL
open Go
set_option linter.unusedVariables false
set_option linter.unusedSimpArgs false

theorem ints_set {ys : List Int} {k : Nat} {x : Int} : (ints ys).set k (.int .i64 x) = ints (ys.set k x) := by simp [ints, List.map_set]
theorem ints_plain {xs : List Int} : PlainL (ints xs) := fun v hv => by
  obtain ⟨x, _, rfl⟩ := List.mem_map.1 hv
  rfl
theorem repl_ints {n : Nat} : List.replicate n (Value.int .i64 0) = ints (List.replicate n 0) := by simp [ints]

theorem mkL_tup {N n : Nat} : isTup (mkL N n) = false := rfl
theorem mkL_fresh {H L : AH} {xs : List Int} : Fresh (H ++ objL 3 (ints xs) :: L) H.length 3 (mkL H.length xs.length) (ints xs) :=
  ⟨H.length, 0, 0, xs.length + 1, _, Nat.le_refl _, by simp [mkL], by simp; rfl, rfl, rfl, rfl, rfl, by simp [objL], by simp only [objL, List.drop_zero]; exact List.take_of_length_le (Nat.le_refl _)⟩

def seqI (n : Int) (k : Nat) : List Int := (List.range k).map fun j => n + (j : Nat)
@[simp] theorem seqI_len {n : Int} {k : Nat} : (seqI n k).length = k := by simp [seqI]
end Go.Proofs.Ytdghlhdpcmemjaa.AL
