/- Plain laws of pairs of lists: sizes, copies, comparisons, marks. No condition. -/
import Derived.Test.YtcbdgkgdopkofaaDoorPA1
namespace Go.Proofs.YtcbdgkgdopkofaaDoor.AL
open Go
set_option linter.unusedVariables false
set_option linter.unusedSimpArgs false
variable {fu : Nat} {a b : List Int}
theorem szSeaweed_eq {n : Int} (h0 : 0 ≤ n) (h1 : n ≤ 1048576) (ha : a.length ≤ 9223372036854775807) (hb : b.length ≤ 9223372036854775807) :
    F_laws_szSeaweed fu a b n = some (if (a.length : Int) + (b.length : Int) ≤ n then n - (a.length : Int) - (b.length : Int) else -1) := by
  unfold F_laws_szSeaweed
  rw [szIntS_eq h0 h1 ha, bd_of]
  by_cases h : (a.length : Int) ≤ n
  · rw [if_pos h, ilt_f (by omega), cond_false, szIntS_eq (by omega) (by omega) hb, bd_of]
    by_cases h2 : (b.length : Int) ≤ n - (a.length : Int)
    · rw [if_pos h2, ilt_f (by omega), cond_false, if_pos (by omega)]
    · rw [if_neg h2, ilt_t (by omega), cond_true, if_neg (by omega)]
  · rw [if_neg h, ilt_t (by omega), cond_true, if_neg (by omega)]
theorem toSeaweed_eq (ha : a.length ≤ 1048576) (hb : b.length ≤ 1048576) (hf : 1048576 < fu) : F_laws_toSeaweed fu a b = some (a, b) := by
  unfold F_laws_toSeaweed
  rw [toIntS_eq (by omega) (by omega), bd_of, toIntS_eq (by omega) (by omega), bd_of]
theorem eqSeaweed_eq (ha : a.length ≤ 1048576) (hb : b.length ≤ 1048576) (hf : 1048576 < fu) : F_laws_eqSeaweed fu a b a b = some true := by
  unfold F_laws_eqSeaweed
  simp [eqIntS_eq (fu := fu) (xs := a) (by omega) (by omega), eqIntS_eq (fu := fu) (xs := b) (by omega) (by omega), bnot]
theorem markSeaweed_eq {m : Int} (h0 : 0 ≤ m) (hm : m ≤ 16777216) (ha : a.length ≤ 1048576) (hb : b.length ≤ 1048576) (hf : 1048576 < fu) :
    F_laws_markSeaweed fu a b m = some (m + (a.length : Int) + (b.length : Int), marks m a.length, marks (m + (a.length : Int)) b.length) := by
  unfold F_laws_markSeaweed
  rw [markIntS_eq h0 (by omega) (by omega), bd_of, markIntS_eq (by omega) (by omega) (by omega), bd_of]
end Go.Proofs.YtcbdgkgdopkofaaDoor.AL
