/- Shortest ways: what the kernel looks at, whatever the fuel. No condition. -/
import Derived.Test.YtjgnpkedkjbmcaaPWV
import Derived.Test.YtjgnpkedkjbmcaaG1
import Derived.Test.YtjgnpkedkjbmcaaG2
import Derived.Test.YtjgnpkedkjbmcaaG3
import Derived.Test.YtjgnpkedkjbmcaaG4
import Derived.Test.YtjgnpkedkjbmcaaG5
import Derived.Test.YtjgnpkedkjbmcaaG6
import Derived.Test.YtjgnpkedkjbmcaaG7
import Derived.Test.YtjgnpkedkjbmcaaG8
import Derived.Test.YtjgnpkedkjbmcaaG9
import Derived.KernelRfl
namespace Go.Proofs.Ytjgnpkedkjbmcaa.AL
set_option linter.unusedVariables false
set_option maxRecDepth 100000
def sumW (n j : Nat) (c : Nat → Bool) : List Nat → Nat
  | [] => 0
  | k :: l => if c k then wayI n k j + sumW n j c l else sumW n j c l
def kA (fu n i : Nat) : Bool := (List.range (vS n).length).all fun j => F_impl_distance fu (sI n i) (sI n j) == some ((dI n i j : Nat) : Int)
def kB (fu n i : Nat) : Bool := (List.range (vS n).length).all fun j => F_spec_exDistance fu (sI n i) (sI n j) == some ((dI n i j : Nat) : Int)
def kC (fu n i : Nat) : Bool := F_impl_rankOf fu (sI n i) == some (i : Int) && F_impl_neighbours fu (sI n i) == some ((nbI n i).map (sI n))
def exS (fu : Nat) (p : List Int) : List (List Int) → Option (List (List Int))
  | [] => some []
  | [a, b] :: r => match F_spec_exAt fu p a b, exS fu p r with
    | some x, some l => some (x :: l)
    | _, _ => none
  | _ => none
def kE (fu n i : Nat) : Bool := match F_spec_exPairs fu (sI n i) with
  | some pr => match exS fu (sI n i) pr with
    | some l => (l == (l.map (vS n).idxOf).map (sI n) && Nat.ble pr.length 15) && ((l.map (vS n).idxOf).all (fun k => Nat.blt k (vS n).length) && (List.range (vS n).length).all fun j =>
      dI n i j == 0 || wayI n i j == sumW n j (fun k => Nat.blt (dI n k j) (dI n i j)) (l.map (vS n).idxOf))
    | none => false
  | none => false
def kT (n i : Nat) : Bool := (((nbI n i).all fun k => Nat.blt k (vS n).length) && (Nat.ble (nbI n i).length 15 && ((sI n i).length == n && (vS n).idxOf (sI n i) == i))) && (List.range (vS n).length).all fun j =>
  if dI n i j = 0 then wayI n i j == 1 else wayI n i j == sumW n j (fun k => dI n k j + 1 == dI n i j) (nbI n i)
theorem kT_s : [0, 2, 4, 6, 8, 10].all (fun n => (List.range (vS n).length).all (kT n)) = true := by kernel_rfl
theorem kA_s (m : Nat) : [0, 2, 4, 6, 8].all (fun n => (List.range (vS n).length).all (kA (m + 1000) n)) = true := by kernel_rfl
theorem kA_1 (m : Nat) : (List.range' 0 14).all (kA (m + 1000) 10) = true := by kernel_rfl
theorem kA_2 (m : Nat) : (List.range' 14 14).all (kA (m + 1000) 10) = true := by kernel_rfl
theorem kA_3 (m : Nat) : (List.range' 28 14).all (kA (m + 1000) 10) = true := by kernel_rfl
theorem kB_s (m : Nat) : [0, 2, 4, 6, 8].all (fun n => (List.range (vS n).length).all (kB (m + 1000) n)) = true := by kernel_rfl
theorem kB_1 (m : Nat) : (List.range' 0 14).all (kB (m + 1000) 10) = true := by kernel_rfl
theorem kB_2 (m : Nat) : (List.range' 14 14).all (kB (m + 1000) 10) = true := by kernel_rfl
theorem kB_3 (m : Nat) : (List.range' 28 14).all (kB (m + 1000) 10) = true := by kernel_rfl
theorem kC_s (m : Nat) : [0, 2, 4, 6, 8].all (fun n => (List.range (vS n).length).all (kC (m + 1000) n)) = true := by kernel_rfl
theorem kC_1 (m : Nat) : (List.range' 0 14).all (kC (m + 1000) 10) = true := by kernel_rfl
theorem kC_2 (m : Nat) : (List.range' 14 14).all (kC (m + 1000) 10) = true := by kernel_rfl
theorem kC_3 (m : Nat) : (List.range' 28 14).all (kC (m + 1000) 10) = true := by kernel_rfl
theorem kE_s (m : Nat) : [0, 2, 4, 6, 8].all (fun n => (List.range (vS n).length).all (kE (m + 1000) n)) = true := by kernel_rfl
theorem kE_1 (m : Nat) : (List.range' 0 14).all (kE (m + 1000) 10) = true := by kernel_rfl
theorem kE_2 (m : Nat) : (List.range' 14 14).all (kE (m + 1000) 10) = true := by kernel_rfl
theorem kE_3 (m : Nat) : (List.range' 28 14).all (kE (m + 1000) 10) = true := by kernel_rfl
end Go.Proofs.Ytjgnpkedkjbmcaa.AL
