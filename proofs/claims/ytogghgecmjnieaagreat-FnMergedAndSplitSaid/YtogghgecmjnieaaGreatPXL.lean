/- Exchanges: the program's and the reference's are one; the laws CountExchanges, ExchangeAt, ExchangesOf. No condition. -/
import Derived.Test.YtogghgecmjnieaaGreatPBCN
namespace Go.Proofs.YtogghgecmjnieaaGreat.AL
open Go Go.Proofs.YtogghgecmjnieaaGreat.Arch
set_option linter.unusedVariables false
set_option linter.unusedSimpArgs false
section
variable {fu : Nat} {p q : List Int}
theorem okC_all (hp : sysB p = true) : okC p = true := sys_ch okC_0 okC_1 okC_2 okC_3 okC_4 okC_5 okC_6 okC_7 okC_8 okC_9 okC_10 okC_11 okC_12 okC_13 okC_14 hp
theorem cs_spec (hp : sysB p = true) : F_impl_couples 2000000 p = some (csOf p) ∧ F_spec_exPairs 2000000 p = some ((csOf p).map fun x => [x.1, x.2]) ∧ (csOf p).length ≤ 15 ∧
  ∀ x ∈ csOf p, ∃ a, F_impl_exchanged 2000000 p x.1 x.2 = some a ∧ F_spec_exAt 2000000 p x.1 x.2 = some a ∧ sysB a = true ∧ a.length = p.length := by
 have h := okC_all hp
 unfold okC at h
 split at h
 ·rename_i c r e1 e2
  have hc : csOf p = c := by unfold csOf; rw [e1]; rfl
  simp only [Bool.and_eq_true, decide_eq_true_eq, List.all_eq_true, beq_iff_eq] at h
  obtain ⟨h1, h2, h3⟩ := h
  rw [hc]
  refine ⟨e1, by rw [e2, h1], h2, fun x hx => ?_⟩
  have := h3 x hx
  split at this
  ·rename_i a b e3 e4
   simp only [Bool.and_eq_true, decide_eq_true_eq, beq_iff_eq] at this
   obtain ⟨rfl, h4, h5⟩ := this
   exact ⟨a, e3, e4, h4, h5⟩
  ·cases this
 ·cases h
theorem good_eq (h : p.length ≤ 1048576) : F_spec_ahGood 2000000 p = some (sysB p) := ahGood_eq (by omega) (by omega)
theorem issys_eq (h : p.length ≤ 1048576) : F_impl_IsSystem 2000000 p = some (sysB p) := IsSystem_eq (by omega) (by omega)
theorem gatI {pre rest : List (Int × Int)} {r : Int × Int} {k : Nat} (h : pre.length = k) : gat i2 (pre ++ r :: rest) (k : Int) = r := by
 subst h
 simp [gat_eq]
theorem gatC {C : List (Int × Int)} {k : Nat} (h : k < C.length) : gat [] (C.map fun x => [x.1, x.2]) (k : Int) = [(gat i2 C (k : Int)).1, (gat i2 C (k : Int)).2] := by
 rw [gat_eq, gat_eq]
 simp [List.getD_eq_getElem?_getD, h]
end
end Go.Proofs.YtogghgecmjnieaaGreat.AL
