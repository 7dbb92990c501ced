/- The walks of functions, each with its Lean function: bits.Len64, bits.Len, slices.insertionSortCmpFunc[[]int], slices.siftDownCmpFunc[[]int], slices.heapSortCmpFunc[[]int], slices.nextPowerOfTwo, (*slices.xorshift).Next, slices.breakPatternsCmpFunc[[]int], slices.order2CmpFunc[[]int], slices.medianCmpFunc[[]int]. No condition. -/
import Derived.Test.YtbckijeffiofdaaG1
import Derived.Test.YtbckijeffiofdaaALD
import Derived.Test.YtbckijeffiofdaaProg
import Derived.KernelRfl
namespace Go.Proofs.Ytbckijeffiofdaa.AL
open Go Go.RowKit
set_option linter.unusedVariables false
set_option linter.unusedSimpArgs false
set_option maxRecDepth 4096
attribute [local simp] n_fn b_add b_sub b_mul b_lt b_le b_gt b_ge b_eq b_ne u_not
theorem ag_22 : aggT Try.prog 22 = some false := by kernel_rfl
theorem el_36 : elemT Try.prog 36 = some 22 := by kernel_rfl
theorem sz_22 : sizeT Try.prog 22 = some 1 := by kernel_rfl
theorem un_114 : Try.prog.underlying 114 = some (.int .u64) := by kernel_rfl
end Go.Proofs.Ytbckijeffiofdaa.AL
