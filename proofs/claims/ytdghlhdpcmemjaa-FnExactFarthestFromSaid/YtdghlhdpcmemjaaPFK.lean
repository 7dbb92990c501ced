/- Systems that close one, and the lists of systems, looked at by the kernel. No condition. -/
import Derived.Test.YtdghlhdpcmemjaaPMP
import Derived.Test.YtdghlhdpcmemjaaPBB
namespace Go.Proofs.Ytdghlhdpcmemjaa.AL
open Go Go.Proofs.Ytdghlhdpcmemjaa.Arch
set_option linter.unusedVariables false
set_option linter.unusedSimpArgs false
set_option maxRecDepth 100000
def allS : List (List Int) := c0 ++ c1 ++ c2 ++ c3 ++ c4 ++ c5 ++ c6 ++ c7 ++ c8 ++ c9 ++ c10 ++ c11 ++ c12 ++ c13 ++ c14
def clB (p : List Int) : Bool := decide (p.length = 0) || allS.any fun q => decide (q.length = p.length) && ((colTo p q p.length).2 == 1)
def listsE (n : Int) : Bool := match F_impl_systems 2000000 n, F_spec_ahAll 2000000 n 0 with
  | some a, some b => (a == b) && (decide (a.length ≤ 132) && ((a.all fun p => sysB p && decide ((p.length : Int) = 2 * n)) && allS.all fun q => !decide ((q.length : Int) = 2 * n) || a.contains q))
  | _, _ => false
theorem clB_0 : c0.all clB = true := by kernel_rfl
theorem clB_1 : c1.all clB = true := by kernel_rfl
theorem clB_2 : c2.all clB = true := by kernel_rfl
theorem clB_3 : c3.all clB = true := by kernel_rfl
theorem clB_4 : c4.all clB = true := by kernel_rfl
theorem clB_5 : c5.all clB = true := by kernel_rfl
theorem clB_6 : c6.all clB = true := by kernel_rfl
theorem clB_7 : c7.all clB = true := by kernel_rfl
theorem clB_8 : c8.all clB = true := by kernel_rfl
theorem clB_9 : c9.all clB = true := by kernel_rfl
theorem clB_10 : c10.all clB = true := by kernel_rfl
theorem clB_11 : c11.all clB = true := by kernel_rfl
theorem clB_12 : c12.all clB = true := by kernel_rfl
theorem clB_13 : c13.all clB = true := by kernel_rfl
theorem clB_14 : c14.all clB = true := by kernel_rfl
theorem listE_1 : listsE 1 = true := by kernel_rfl
theorem listE_2 : listsE 2 = true := by kernel_rfl
theorem listE_3 : listsE 3 = true := by kernel_rfl
theorem listE_4 : listsE 4 = true := by kernel_rfl
theorem listE_5 : listsE 5 = true := by kernel_rfl
theorem listE_6 : listsE 6 = true := by kernel_rfl
end Go.Proofs.Ytdghlhdpcmemjaa.AL
