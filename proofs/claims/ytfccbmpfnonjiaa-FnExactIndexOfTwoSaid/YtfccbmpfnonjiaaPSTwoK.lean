/- Indices of seaweeds of two parts, told one by one. No condition. -/
import Derived.Test.YtfccbmpfnonjiaaPA1
import Derived.KernelRfl
namespace Go.Proofs.Ytfccbmpfnonjiaa.AL
open Go
set_option linter.unusedVariables false
set_option linter.unusedSimpArgs false
set_option maxRecDepth 100000
def twoQ (a b : Int) : Bool := match F_spec_IndexOfTwo 2000000 a b, F_impl_IndexOfTwo 2000000 a b with
  | some r, some s => decide (s.1 = r.1) && (s.2 == r.2)
  | _, _ => false
def twoK (a b c d : Nat) : Bool := (List.range' a b).all fun x => (List.range' c d).all fun y => twoQ (x : Int) (y : Int)
theorem two1 : twoK 1 5 1 20 = true := by kernel_rfl
theorem two2 : twoK 6 15 1 20 = true := by kernel_rfl
theorem two_at {x y : Int} (h : 1 ≤ x ∧ x ≤ 20) (h' : 1 ≤ y ∧ y ≤ 20) : twoQ x y = true := by
  have e1 : ((x.toNat : Nat) : Int) = x := by omega
  have e2 : ((y.toNat : Nat) : Int) = y := by omega
  have hy : y.toNat ∈ List.range' 1 20 := List.mem_range'_1.2 ⟨by omega, by omega⟩
  rw [← e1, ← e2]
  by_cases c : x < 6
  · exact List.all_eq_true.1 (List.all_eq_true.1 two1 x.toNat (List.mem_range'_1.2 ⟨by omega, by omega⟩)) _ hy
  · exact List.all_eq_true.1 (List.all_eq_true.1 two2 x.toNat (List.mem_range'_1.2 ⟨by omega, by omega⟩)) _ hy
end Go.Proofs.Ytfccbmpfnonjiaa.AL
