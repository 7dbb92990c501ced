/- Exchanges of systems, looked at by the kernel. No condition. -/
import Derived.Test.YtogghgecmjnieaaGreatPBX
import Derived.KernelRfl
namespace Go.Proofs.YtogghgecmjnieaaGreat.AL
open Go Go.Proofs.YtogghgecmjnieaaGreat.Arch
set_option maxRecDepth 100000
theorem okC_10 : c10.all okC = true := by kernel_rfl
theorem okC_11 : c11.all okC = true := by kernel_rfl
theorem okC_12 : c12.all okC = true := by kernel_rfl
theorem okC_13 : c13.all okC = true := by kernel_rfl
theorem okC_14 : c14.all okC = true := by kernel_rfl
end Go.Proofs.YtogghgecmjnieaaGreat.AL
