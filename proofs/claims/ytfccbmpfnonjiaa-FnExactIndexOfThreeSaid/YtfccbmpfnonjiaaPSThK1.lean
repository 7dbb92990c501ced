/- Indices of seaweeds of three parts, told one by one. No condition. -/
import Derived.Test.YtfccbmpfnonjiaaPA1
import Derived.KernelRfl
namespace Go.Proofs.Ytfccbmpfnonjiaa.AL
open Go
set_option linter.unusedVariables false
set_option linter.unusedSimpArgs false
set_option maxRecDepth 100000
def thrQ (a b c : Int) : Bool := match F_spec_IndexOfThree 2000000 a b c, F_impl_IndexOfThree 2000000 a b c with
  | some r, some s => decide (s.1 = r.1) && (s.2 == r.2)
  | _, _ => false
def thrK (a b : Nat) : Bool := (List.range' a b).all fun x => (List.range' 1 20).all fun y => decide (20 < x + y) || (List.range' 1 20).all fun z => decide (20 < x + y + z) || thrQ (x : Int) (y : Int) (z : Int)
theorem thr1 : thrK 1 1 = true := by kernel_rfl
theorem thr2 : thrK 2 1 = true := by kernel_rfl
end Go.Proofs.Ytfccbmpfnonjiaa.AL
