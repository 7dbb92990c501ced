/- The law of counts by states. No condition. -/
import Derived.Test.YtdbflchpbhkanaaPE4
import Derived.Test.YtdbflchpbhkanaaG8
namespace Go.Proofs.Ytdbflchpbhkanaa.AL
open Go
set_option linter.unusedVariables false
set_option linter.unusedSimpArgs false
section
variable {fu : Nat}
theorem imul2 {n : Nat} (h : n ≤ 100) : imul .i64 2 (n : Int) = ((2 * n : Nat) : Int) := by
  unfold imul
  rw [wrF_eq, wrap_id (by omega) (by omega)]
  omega
theorem start_good : GdS ([], [], 0) := by decide
theorem round_ord {p : St3 → Bool} {L : List SW} (hL : Ord L) (hf : 1000 < fu) : Ord (foldS (L.flatMap (gS fu p)) []) := (Ord.fold Ord.nil (flat_ok hL hf)).1
theorem shut_of {k : ByteArray} {s : St3} {w : Int} (h1 : s.1 = []) (h2 : s.2.1 = []) : shutE (k, s, w) = true := by
  unfold shutE
  simp only [h1, h2]
  rfl
theorem pP0 {s : St3} (h : pP 0 s = true) : s.1 = [] ∧ s.2.1 = [] := by
  have := of_decide_eq_true h
  exact ⟨List.eq_nil_of_length_eq_zero (by omega), List.eq_nil_of_length_eq_zero (by omega)⟩
theorem gatR {m j : Int} : gat 0 (lrep m (0 : Int)) j = 0 := by
  rw [gat_eq]
  simp only [List.getD_eq_getElem?_getD, lrep]
  cases h1 : (List.replicate m.toNat (0 : Int))[j.toNat]? with
  | none => rfl
  | some v =>
    have := List.mem_of_getElem? h1
    rw [List.mem_replicate] at this
    simp [this.2]
end
end Go.Proofs.Ytdbflchpbhkanaa.AL
