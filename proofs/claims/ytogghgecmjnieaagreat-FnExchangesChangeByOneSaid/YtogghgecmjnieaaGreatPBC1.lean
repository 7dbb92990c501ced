/- Exchanges of systems, looked at by the kernel. No condition. -/
import Derived.Test.YtogghgecmjnieaaGreatPBX
import Derived.KernelRfl
namespace Go.Proofs.YtogghgecmjnieaaGreat.AL
open Go Go.Proofs.YtogghgecmjnieaaGreat.Arch
set_option maxRecDepth 100000
theorem okC_0 : c0.all okC = true := by kernel_rfl
theorem okC_1 : c1.all okC = true := by kernel_rfl
theorem okC_2 : c2.all okC = true := by kernel_rfl
theorem okC_3 : c3.all okC = true := by kernel_rfl
theorem okC_4 : c4.all okC = true := by kernel_rfl
end Go.Proofs.YtogghgecmjnieaaGreat.AL
