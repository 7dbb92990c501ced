/- Lists of exchanges, looked at by the kernel. No condition. -/
import Derived.Test.YtogghgecmjnieaaGreatPBX
import Derived.KernelRfl
namespace Go.Proofs.YtogghgecmjnieaaGreat.AL
open Go Go.Proofs.YtogghgecmjnieaaGreat.Arch
set_option maxRecDepth 100000
theorem okN_0 : c0.all okN = true := by kernel_rfl
theorem okN_1 : c1.all okN = true := by kernel_rfl
theorem okN_2 : c2.all okN = true := by kernel_rfl
theorem okN_3 : c3.all okN = true := by kernel_rfl
theorem okN_4 : c4.all okN = true := by kernel_rfl
end Go.Proofs.YtogghgecmjnieaaGreat.AL
