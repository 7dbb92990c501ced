/- Exchanges of systems, looked at by the kernel. No condition. -/
import Derived.Test.YtogghgecmjnieaaGreatPBX
import Derived.KernelRfl
namespace Go.Proofs.YtogghgecmjnieaaGreat.AL
open Go Go.Proofs.YtogghgecmjnieaaGreat.Arch
set_option maxRecDepth 100000
theorem okC_5 : c5.all okC = true := by kernel_rfl
theorem okC_6 : c6.all okC = true := by kernel_rfl
theorem okC_7 : c7.all okC = true := by kernel_rfl
theorem okC_8 : c8.all okC = true := by kernel_rfl
theorem okC_9 : c9.all okC = true := by kernel_rfl
end Go.Proofs.YtogghgecmjnieaaGreat.AL
