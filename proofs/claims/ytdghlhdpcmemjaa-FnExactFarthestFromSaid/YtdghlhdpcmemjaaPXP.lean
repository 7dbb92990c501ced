/- Paths of exchanges: the program's and the reference's are one; the law ExchangePath. No condition. -/
import Derived.Test.YtdghlhdpcmemjaaPXL
import Derived.Test.YtdghlhdpcmemjaaPCB
namespace Go.Proofs.Ytdghlhdpcmemjaa.AL
open Go Go.Proofs.Ytdghlhdpcmemjaa.Arch
set_option linter.unusedVariables false
set_option linter.unusedSimpArgs false
set_option maxRecDepth 100000
section
variable {fu : Nat} {p q a : List Int}
def cmpV (p q : List Int) : Int := ((colTo p q p.length).2 : Nat)
theorem sys_le (h : sysB p = true) : p.length ≤ 12 := by
  unfold sysB at h
  rw [Bool.and_eq_true, decide_eq_true_eq] at h
  exact h.1
theorem comp_eq (h : pairB p q = true) : F_impl_Meander_components fu p q = some (cmpV p q) := by
  unfold F_impl_Meander_components cmpV
  rw [if_pos h]
theorem quo12 : ∀ k : Nat, k < 13 → iquo .i64 (k : Int) 2 = ((k / 2 : Nat) : Int) := by decide
end
end Go.Proofs.Ytdghlhdpcmemjaa.AL
