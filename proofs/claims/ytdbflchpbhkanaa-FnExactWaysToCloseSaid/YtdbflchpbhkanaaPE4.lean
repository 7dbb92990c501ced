/- The law of ways to close. No condition. -/
import Derived.Test.YtdbflchpbhkanaaPE3
import Derived.Test.YtdbflchpbhkanaaG7
namespace Go.Proofs.Ytdbflchpbhkanaa.AL
open Go
set_option linter.unusedVariables false
set_option linter.unusedSimpArgs false
section
variable {fu : Nat} {u d : List Int} {c : Int}
theorem szState_eq (hu : u.length ≤ 9223372036854775807) (hd : d.length ≤ 9223372036854775807) : F_laws_szState fu u d c 1048576 = some (if (u.length : Int) + (d.length : Int) ≤ 1048576 then 1048576 - (u.length : Int) - (d.length : Int) else -1) := by
  unfold F_laws_szState
  rw [szIntS_eq (by omega) (by omega) hu, bd_of]
  by_cases h1 : (u.length : Int) ≤ 1048576
  · rw [if_pos h1, ilt_f (by omega), cond_false, szIntS_eq (by omega) (by omega) hd, bd_of]
    by_cases h2 : (d.length : Int) ≤ 1048576 - (u.length : Int)
    · rw [if_pos h2, ilt_f (by omega), cond_false, if_pos (by omega)]
    · rw [if_neg h2, if_neg (by omega)]
      rfl
  · rw [if_neg h1, if_neg (by omega)]
    rfl
theorem toState_eq (hf : 2000000 < fu) (hu : u.length ≤ 1048576) (hd : d.length ≤ 1048576) : F_laws_toState fu u d c = some (u, d, c) := by
  unfold F_laws_toState
  rw [toIntS_eq (by omega) (by omega), bd_of, toIntS_eq (by omega) (by omega), bd_of]
theorem eqState_eq (hf : 2000000 < fu) (hu : u.length ≤ 1048576) (hd : d.length ≤ 1048576) : F_laws_eqState fu u d c u d c = some true := by
  unfold F_laws_eqState
  rw [eqIntS_eq (by omega) (by omega), bd_of]
  show bd (F_laws_eqIntS fu d d) _ = _
  rw [eqIntS_eq (by omega) (by omega), bd_of]
  show (bif ine c c then _ else _) = _
  rw [ine_f rfl, cond_false]
theorem bne_self (b : Bool) : bne' b b = false := by cases b <;> rfl
theorem law_WaysToClose {x1 x2 : Int} (hu : u.length ≤ 9223372036854775807) (hd : d.length ≤ 9223372036854775807) (_ : (Lit.int .i64 c).wf = true) (_ : (Lit.int .i64 x1).wf = true) (_ : (Lit.int .i64 x2).wf = true) : F_laws_FnExactWaysToClose 200000000 u d c x1 x2 = some true := by
  unfold F_laws_FnExactWaysToClose
  rw [szState_eq hu hd, bd_of]
  by_cases h1 : (u.length : Int) + (d.length : Int) ≤ 1048576
  · rw [if_pos h1, ilt_f (by omega), cond_false, toState_eq (by omega) (by omega) (by omega), bd_of]
    obtain ⟨r, e1, e2⟩ := ways_eq (fu := 200000000) u d c x1 x2 (by omega) (by omega) (by omega)
    simp only
    rw [e1, bd_of, bd_of, e2, bd_of, ine_f rfl, cond_false, bne_self, bd_of, cond_false, bd_of]
    simp only
    rw [eqState_eq (by omega) (by omega) (by omega), bd_of]
    rfl
  · rw [if_neg h1]
    rfl
end
end Go.Proofs.Ytdbflchpbhkanaa.AL
