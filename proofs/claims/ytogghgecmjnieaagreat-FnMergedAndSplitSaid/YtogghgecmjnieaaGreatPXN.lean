/- Steps of exchanges, out of the table; the reference's count: what the kernel looks at. No condition. -/
import Derived.Test.YtogghgecmjnieaaGreatPXK
import Derived.KernelRfl
namespace Go.Proofs.YtogghgecmjnieaaGreat.AL
open Go Go.Proofs.YtogghgecmjnieaaGreat.Arch
set_option linter.unusedVariables false
set_option linter.unusedSimpArgs false
set_option maxRecDepth 100000
def rowM (p : List Int) : Bool := match tab p with
 | some t => ((cand p.length).map fun x => F_spec_meCount 2000000 p x) == (dec (cand p.length).length t.1).map fun d : Nat => some (d : Int)
 | none => false
def dmV (p : List Int) (c : Int × Int) : List Nat := match tab (exV p c) with
 | some u => dec (cand p.length).length u.1
 | none => []
def stB (n : Nat) : List Nat → List (List Nat) → Bool
 | a :: l, ms => ((Nat.ble a 1 || ms.any fun m => m.headD 9 == a - 1) && (Nat.ble n a || ms.any fun m => m.headD 9 == a + 1)) && stB n l (ms.map List.tail)
 | [], _ => true
def stepB (p : List Int) : Bool := match tab p with
 | some t => ((dec (cand p.length).length t.1).all fun d => Nat.ble d (p.length / 2) && (p.length == 0 || Nat.ble 1 d)) &&
  ((((cand p.length).zip (dec (cand p.length).length t.1)).all fun r => !(r.2 == p.length / 2) || r.1 == p) &&
   ((p.length == 0 || (dec (cand p.length).length t.1).any fun d => d == 1) && stB (p.length / 2) (dec (cand p.length).length t.1) ((csOf p).map (dmV p))))
 | none => false
def candS (n : Nat) : Bool := (cand n).all fun x => sysB x && x.length == n
theorem candS_all : [0, 2, 4, 6, 8, 10, 12].all candS = true := by kernel_rfl
def listsE (n : Nat) : Bool := match F_impl_systems 2000000 (n : Int), F_spec_ahAll 2000000 (n : Int) 0 with
 | some a, some b => (a == b) && (decide (a.length ≤ 132) && ((a.all fun p => sysB p && decide ((p.length : Int) = 2 * (n : Int))) && (cand (2 * n)).all fun q => a.contains q))
 | _, _ => false
theorem listE_1 : listsE 1 = true := by kernel_rfl
theorem listE_2 : listsE 2 = true := by kernel_rfl
theorem listE_3 : listsE 3 = true := by kernel_rfl
theorem listE_4 : listsE 4 = true := by kernel_rfl
theorem listE_5 : listsE 5 = true := by kernel_rfl
theorem listE_6 : listsE 6 = true := by kernel_rfl
theorem stepB_0 : c0.all stepB = true := by kernel_rfl
theorem stepB_1 : c1.all stepB = true := by kernel_rfl
theorem stepB_2 : c2.all stepB = true := by kernel_rfl
theorem stepB_3 : c3.all stepB = true := by kernel_rfl
theorem stepB_4 : c4.all stepB = true := by kernel_rfl
theorem stepB_5 : c5.all stepB = true := by kernel_rfl
theorem stepB_6 : c6.all stepB = true := by kernel_rfl
theorem stepB_7 : c7.all stepB = true := by kernel_rfl
theorem stepB_8 : c8.all stepB = true := by kernel_rfl
theorem stepB_9 : c9.all stepB = true := by kernel_rfl
theorem stepB_10 : c10.all stepB = true := by kernel_rfl
theorem stepB_11 : c11.all stepB = true := by kernel_rfl
theorem stepB_12 : c12.all stepB = true := by kernel_rfl
theorem stepB_13 : c13.all stepB = true := by kernel_rfl
theorem stepB_14 : c14.all stepB = true := by kernel_rfl
end Go.Proofs.YtogghgecmjnieaaGreat.AL
