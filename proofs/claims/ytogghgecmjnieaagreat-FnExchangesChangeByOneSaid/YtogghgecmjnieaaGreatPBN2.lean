/- Lists of exchanges, looked at by the kernel. No condition. -/
import Derived.Test.YtogghgecmjnieaaGreatPBX
import Derived.KernelRfl
namespace Go.Proofs.YtogghgecmjnieaaGreat.AL
open Go Go.Proofs.YtogghgecmjnieaaGreat.Arch
set_option maxRecDepth 100000
theorem okN_5 : c5.all okN = true := by kernel_rfl
theorem okN_6 : c6.all okN = true := by kernel_rfl
theorem okN_7 : c7.all okN = true := by kernel_rfl
theorem okN_8 : c8.all okN = true := by kernel_rfl
theorem okN_9 : c9.all okN = true := by kernel_rfl
end Go.Proofs.YtogghgecmjnieaaGreat.AL
