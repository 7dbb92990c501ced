/- Systems: what the program's check and the reference's answer. No condition. -/
import Derived.Test.YtbckijeffiofdaaPA2
import Derived.Test.YtbckijeffiofdaaQArch
namespace Go.Proofs.Ytbckijeffiofdaa.AL
open Go Go.Proofs.Ytbckijeffiofdaa.Arch
set_option linter.unusedVariables false
set_option linter.unusedSimpArgs false

theorem ArcS.lo' {p : List Int} (s : ArcS p) (i : Int) (h0 : 0 ≤ i) (h1 : i < p.length) : 0 ≤ gat 0 p i := s.lo i h0 h1
theorem ArcS.hi' {p : List Int} (s : ArcS p) (i : Int) (h0 : 0 ≤ i) (h1 : i < p.length) : gat 0 p i < p.length := s.hi i h0 h1
theorem ArcS.inv' {p : List Int} (s : ArcS p) (i : Int) (h0 : 0 ≤ i) (h1 : i < p.length) : gat 0 p (gat 0 p i) = i := s.inv i h0 h1
theorem range_of_all {p : List Int} (h : p.all (fun x => decide (0 ≤ x) && decide (x < p.length)) = true) : ∀ i : Int, 0 ≤ i → i < p.length → 0 ≤ gat 0 p i ∧ gat 0 p i < p.length := by
  intro i h0 h1
  rw [List.all_eq_true] at h
  have hm : gat 0 p i ∈ p := by
    rw [gat_eq]
    rw [List.getD_eq_getElem?_getD, List.getElem?_eq_getElem (by omega : i.toNat < p.length)]
    exact List.getElem_mem _
  have := h _ hm
  simpa using this
theorem all_of_range {p : List Int} (h : ∀ i : Int, 0 ≤ i → i < p.length → 0 ≤ gat 0 p i ∧ gat 0 p i < p.length) : p.all (fun x => decide (0 ≤ x) && decide (x < p.length)) = true := by
  rw [List.all_eq_true]
  intro x hx
  obtain ⟨j, hj, rfl⟩ := List.getElem_of_mem hx
  have := h j (by omega) (by omega)
  rw [gat_eq] at this
  rw [List.getD_eq_getElem?_getD, List.getElem?_eq_getElem (by omega : (j : Int).toNat < p.length)] at this
  simpa using this
def arcB (p : List Int) : Bool := decide (p.length % 2 = 0) && (p.all (fun x => decide (0 ≤ x) && decide (x < p.length)) && okFrom p p.length 0 [])
theorem arcB_iff (p : List Int) : arcB p = true ↔ ArcS p := by
  unfold arcB
  simp only [Bool.and_eq_true, decide_eq_true_eq]
  constructor
  · rintro ⟨h2, h3, h4⟩
    exact sys_of_ok (range_of_all h3) h4
  · intro h
    exact ⟨even_of_sys h, all_of_range (fun i h0 h1 => ⟨h.lo i h0 h1, h.hi i h0 h1⟩), ok_of_sys h p.length 0 (by omega)⟩
def sysB (p : List Int) : Bool := decide (p.length ≤ 12) && arcB p
section
variable {fu : Nat} {p : List Int}
theorem in_eq (a b c : Int) : F_impl_in fu a b c = some (decide (b ≤ a) && decide (a ≤ c)) := by
  unfold F_impl_in
  rw [ile_eq, ile_eq]
  cases decide (b ≤ a) <;> rfl
theorem l1In_eq (a b c : Int) : F_spec_l1In fu a b c = some (decide (b ≤ a) && decide (a ≤ c)) := by
  unfold F_spec_l1In
  rw [ile_eq, ile_eq]
  cases decide (b ≤ a) <;> rfl
end
end Go.Proofs.Ytbckijeffiofdaa.AL
