/- The standard library's sort of at most twelve strings; texts of systems are one. No condition. -/
import Derived.Test.YtbckijeffiofdaaPT2
import Derived.KernelRfl
namespace Go.Proofs.Ytbckijeffiofdaa.AL
open Go
set_option linter.unusedVariables false
set_option linter.unusedSimpArgs false
set_option maxRecDepth 100000
section
variable {fu : Nat}
theorem isort_eq {X : List ByteArray} (h : X.length ≤ 12) (hf : 2000 < fu) : F_slices_insertionSortOrdered_string fu X 0 (llen X) = some (allS [] X) := by
  unfold F_slices_insertionSortOrdered_string
  rw [iadd_id (by omega) (by omega)]
  cases X with
  | nil =>
    obtain ⟨g, rfl⟩ : ∃ g, fu = g + 1 := ⟨fu - 1, by omega⟩
    simp only [F_slices_insertionSortOrdered_string_L1]
    rw [ilt_f (by simp [llen]), cond_false]
    rfl
  | cons x xs =>
    have hl : xs.length + 1 ≤ 12 := by simpa using h
    have := isort_L1 (fu := fu) (k1 := llen (x :: xs)) xs [x] fu (by simp [SortS]) (by simp; omega) hf (by omega) (by simp [llen])
    rw [show ([x].length : Int) = 0 + 1 by simp, show [x] ++ xs = x :: xs from rfl] at this
    rw [this, bd_of]
    rfl
theorem pdq_eq {X : List ByteArray} {c : Int} (h : X.length ≤ 12) (hf : 2000 < fu) : F_slices_pdqsortOrdered_string (fu + 1) X 0 (llen X) c = some (allS [] X) := by
  show bd (F_slices_pdqsortOrdered_string_L1 fu (F_slices_pdqsortOrdered_string fu) fu X 0 (llen X) c true true) (fun s1 => lr s1 fun _ => none) = _
  generalize F_slices_pdqsortOrdered_string fu = self
  have e : F_slices_pdqsortOrdered_string_L1 fu self fu X 0 (llen X) c true true = some (.ret (allS [] X)) := by
    obtain ⟨g, rfl⟩ : ∃ g, fu = g + 1 := ⟨fu - 1, by omega⟩
    rw [F_slices_pdqsortOrdered_string_L1]
    rw [ile_t (by simp only [llen]; rw [isub_id (by omega) (by omega)]; omega), cond_true, isort_eq h hf, bd_of]
  rw [e]
  rfl
theorem lenOk : ((List.range 13).all fun k : Nat => (F_math_bits_Len 2000000 (iwr .u64 (k : Int))).isSome) = true := by kernel_rfl
theorem sort_eq {X : List ByteArray} (h : X.length ≤ 12) : F_slices_Sort_Sstring 2000000 X = some (allS [] X) := by
  obtain ⟨c, hc⟩ : ∃ c, F_math_bits_Len 2000000 (iwr .u64 (llen X)) = some c := Option.isSome_iff_exists.1 (List.all_eq_true.1 lenOk X.length (by simp; omega))
  unfold F_slices_Sort_Sstring
  rw [hc, bd_of, show (2000000 : Nat) = 1999999 + 1 from rfl, pdq_eq h (by omega), bd_of]
end
end Go.Proofs.Ytbckijeffiofdaa.AL
