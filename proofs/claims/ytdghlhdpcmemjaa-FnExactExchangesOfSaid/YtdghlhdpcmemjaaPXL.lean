/- Exchanges: the program's and the reference's are one; the laws CountExchanges, ExchangeAt, ExchangesOf. No condition. -/
import Derived.Test.YtdghlhdpcmemjaaPBC1
import Derived.Test.YtdghlhdpcmemjaaPBC2
import Derived.Test.YtdghlhdpcmemjaaPBC3
import Derived.Test.YtdghlhdpcmemjaaPBN1
import Derived.Test.YtdghlhdpcmemjaaPBN2
import Derived.Test.YtdghlhdpcmemjaaPBN3
import Derived.Test.YtdghlhdpcmemjaaPRM
namespace Go.Proofs.Ytdghlhdpcmemjaa.AL
open Go Go.Proofs.Ytdghlhdpcmemjaa.Arch
set_option linter.unusedVariables false
set_option linter.unusedSimpArgs false
section
variable {fu : Nat} {p q : List Int}
theorem okN_all (hp : sysB p = true) : okN p = true := sys_ch okN_0 okN_1 okN_2 okN_3 okN_4 okN_5 okN_6 okN_7 okN_8 okN_9 okN_10 okN_11 okN_12 okN_13 okN_14 hp
theorem good_eq (h : p.length ≤ 1048576) : F_spec_ahGood fu p = some (sysB p) := by
  unfold F_spec_ahGood
  rw [if_pos (by omega)]
theorem issys_eq (h : p.length ≤ 1048576) : F_impl_IsSystem fu p = some (sysB p) := by
  unfold F_impl_IsSystem
  rw [if_pos (by omega)]
theorem of_eq (h : p.length ≤ 1048576) : ∃ S : List (List Int) × Bool, F_spec_ExchangesOf 2000000 p = some S ∧ F_impl_ExchangesOf 2000000 p = some S ∧ S.1.length ≤ 15 ∧ ∀ x ∈ S.1, x.length ≤ 12 := by
  cases hp : sysB p
  · unfold F_spec_ExchangesOf F_impl_ExchangesOf
    rw [good_eq h, issys_eq h, bd_of, bd_of, hp]
    exact ⟨_, rfl, rfl, by simp, by simp⟩
  · have h := okN_all hp
    unfold okN at h
    split at h
    · rename_i a t b u e1 e2
      simp only [Bool.and_eq_true, decide_eq_true_eq, List.all_eq_true, beq_iff_eq] at h
      obtain ⟨⟨rfl, rfl, rfl⟩, h3, h4⟩ := h
      exact ⟨_, e2, e1, h3, h4⟩
    · cases h
theorem law_ExchangesOf {a : List Int} (ha : a.length ≤ 9223372036854775807) : F_laws_FnExactExchangesOf 2000000 a = some true := by
  unfold F_laws_FnExactExchangesOf
  by_cases h1 : a.length ≤ 1048576
  · rw [ilt_f (by simp only [llen]; omega), cond_false]
    have t1 := toIntS_eq (fu := 2000000) (xs := a) (by omega) (by omega)
    have q1 := eqIntS_eq (fu := 2000000) (xs := a) (by omega) (by omega)
    obtain ⟨S, e1, e2, l1, l2⟩ := of_eq h1
    have hc := cellsN_le l2
    have l3 : ∀ r ∈ S.1, r.length ≤ 1048576 := fun r hr => by
      have := l2 r hr
      omega
    have m0 := markIntS_eq (fu := 2000000) (xs := a) (m := 1) (by omega) (by omega) (by omega)
    have m1 := markSS_eq (fu := 2000000) (rs := S.1) (m := 1) (by omega) (by omega) (by omega) (by omega) l3
    have h3 := heldSS_eq (fu := 2000000) (rs := S.1) (m := 1) (by omega) (by omega) (by omega) (by omega) l3
    have q3 := eqSS_eq (fu := 2000000) (rs := S.1) (by omega) (by omega) l3
    have n1 : ilt (1 + (a.length : Int)) 0 = false := ilt_f (by omega)
    have n2 : ilt (1 + (cellsN S.1 : Int)) 0 = false := ilt_f (by omega)
    simp [t1, q1, q3, m0, m1, h3, e1, e2, n1, n2, bnot, bne', ine_eq]
  · rw [ilt_t (by simp only [llen]; omega), cond_true]
end
end Go.Proofs.Ytdghlhdpcmemjaa.AL
