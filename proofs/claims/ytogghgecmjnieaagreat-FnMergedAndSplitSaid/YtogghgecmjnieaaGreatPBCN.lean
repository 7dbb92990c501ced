/- Exchanges, looked at by the kernel. No condition. -/
import Derived.Test.YtogghgecmjnieaaGreatPBX
import Derived.KernelRfl
namespace Go.Proofs.YtogghgecmjnieaaGreat.AL
open Go Go.Proofs.YtogghgecmjnieaaGreat.Arch
set_option maxRecDepth 100000
theorem okC_0 : c0.all okC = true := by kernel_rfl
theorem okC_1 : c1.all okC = true := by kernel_rfl
theorem okC_2 : c2.all okC = true := by kernel_rfl
theorem okC_3 : c3.all okC = true := by kernel_rfl
theorem okC_4 : c4.all okC = true := by kernel_rfl
theorem okC_5 : c5.all okC = true := by kernel_rfl
theorem okC_6 : c6.all okC = true := by kernel_rfl
theorem okC_7 : c7.all okC = true := by kernel_rfl
theorem okC_8 : c8.all okC = true := by kernel_rfl
theorem okC_9 : c9.all okC = true := by kernel_rfl
theorem okC_10 : c10.all okC = true := by kernel_rfl
theorem okC_11 : c11.all okC = true := by kernel_rfl
theorem okC_12 : c12.all okC = true := by kernel_rfl
theorem okC_13 : c13.all okC = true := by kernel_rfl
theorem okC_14 : c14.all okC = true := by kernel_rfl
end Go.Proofs.YtogghgecmjnieaaGreat.AL
