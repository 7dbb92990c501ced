/- Lists of exchanges, looked at by the kernel. No condition. -/
import Derived.Test.YtogghgecmjnieaaGreatPBX
import Derived.KernelRfl
namespace Go.Proofs.YtogghgecmjnieaaGreat.AL
open Go Go.Proofs.YtogghgecmjnieaaGreat.Arch
set_option maxRecDepth 100000
theorem okN_10 : c10.all okN = true := by kernel_rfl
theorem okN_11 : c11.all okN = true := by kernel_rfl
theorem okN_12 : c12.all okN = true := by kernel_rfl
theorem okN_13 : c13.all okN = true := by kernel_rfl
theorem okN_14 : c14.all okN = true := by kernel_rfl
end Go.Proofs.YtogghgecmjnieaaGreat.AL
