/- The law FnExchangesChangeByOne: what the program's functions answer, put together. No condition. -/
import Derived.Test.YtogghgecmjnieaaGreatPXL
import Derived.Test.YtogghgecmjnieaaGreatPA5
import Derived.Test.YtogghgecmjnieaaGreatPDR
import Derived.Test.YtogghgecmjnieaaGreatPXR0
import Derived.Test.YtogghgecmjnieaaGreatPXR1
import Derived.Test.YtogghgecmjnieaaGreatPXS0
import Derived.Test.YtogghgecmjnieaaGreatPXS1
import Derived.KernelRfl
namespace Go.Proofs.YtogghgecmjnieaaGreat.AL
open Go Go.Proofs.YtogghgecmjnieaaGreat.Arch
set_option linter.unusedVariables false
set_option linter.unusedSimpArgs false
set_option maxRecDepth 100000
section
variable {fu : Nat} {p q : List Int}
theorem candB_all (hp : sysB p = true) : candB p = true := sys_ch candB_0 candB_1 candB_2 candB_3 candB_4 candB_5 candB_6 candB_7 candB_8 candB_9 candB_10 candB_11 candB_12 candB_13 candB_14 hp
theorem rowB_all (hp : sysB p = true) : rowB p = true := sys_ch rowB_0 rowB_1 rowB_2 rowB_3 rowB_4 rowB_5 rowB_6 rowB_7 rowB_8 rowB_9 rowB_10 rowB_11 rowB_12 rowB_13 rowB_14 hp
theorem sSame_L {a b : List Int} (hl : a.length = b.length) (ha : a.length ≤ 1048576) : ∀ (d k m : Nat), k + d = a.length → d < m →
  ∃ r : LR Bool Int, F_laws_sSame_L1 fu a b (a.length : Int) m (k : Int) = some r ∧ (a.drop k = b.drop k → ∃ z, r = .brk z) ∧ (a.drop k ≠ b.drop k → r = .ret false) := by
 intro d
 induction d with
 | zero =>
  intro k m hk hm
  cases m with
  | zero => omega
  | succ m =>
   simp only [F_laws_sSame_L1]
   rw [ilt_f (by omega), cond_false]
   refine ⟨_, rfl, fun _ => ⟨_, rfl⟩, fun h => ?_⟩
   exact absurd (by rw [List.drop_of_length_le (by omega), List.drop_of_length_le (by omega)]) h
 | succ d ih =>
  intro k m hk hm
  cases m with
  | zero => omega
  | succ m =>
   have h1 : k < a.length := by omega
   have h2 : k < b.length := by omega
   simp only [F_laws_sSame_L1]
   rw [ilt_t (by omega), cond_true, gd_t (inL_nat h1), gd_t (inL_nat h2), gat_nat h1, gat_nat h2, iadd_id (by omega) (by omega), show ((k : Int) + 1) = ((k + 1 : Nat) : Int) by omega]
   have ea : a.drop k = a[k] :: a.drop (k + 1) := List.drop_eq_getElem_cons h1
   have eb : b.drop k = b[k] :: b.drop (k + 1) := List.drop_eq_getElem_cons h2
   by_cases e : a[k] = b[k]
   ·rw [ine_f e, cond_false]
    obtain ⟨r, g1, g2, g3⟩ := ih (k + 1) m (by omega) (by omega)
    refine ⟨r, g1, fun h => g2 ?_, fun h => g3 ?_⟩
    ·rw [ea, eb] at h
     exact (List.cons.inj h).2
    ·intro h'
     exact h (by rw [ea, eb, e, h'])
   ·rw [ine_t e, cond_true]
    refine ⟨_, rfl, fun h => ?_, fun _ => rfl⟩
    rw [ea, eb] at h
    exact absurd (List.cons.inj h).1 e
theorem sSame_eq {a b : List Int} (ha : a.length ≤ 1048576) (hf : 1048576 < fu) : F_laws_sSame fu a b = some (decide (a = b)) := by
 unfold F_laws_sSame
 by_cases hl : a.length = b.length
 ·rw [ine_f (by simp only [llen]; omega), cond_false]
  obtain ⟨r, g1, g2, g3⟩ := sSame_L (fu := fu) hl ha a.length 0 fu (by omega) (by omega)
  simp only [llen]
  rw [Int.natCast_zero] at g1
  rw [g1, bd_of]
  by_cases e : a = b
  ·obtain ⟨z, rfl⟩ := g2 (by simpa using e)
   rw [decide_eq_true e]
   rfl
  ·rw [g3 (by simpa using e), decide_eq_false e]
   rfl
 ·rw [ine_t (by simp only [llen]; omega), cond_true, decide_eq_false (fun e => hl (by rw [e]))]
theorem sRows_L {X : List (List Int)} (hX : X.length ≤ 1048576) (hl : ∀ x ∈ X, x.length ≤ 1048576) (hf : 1048576 < fu) : ∀ (d k m : Nat), k + d = X.length → d < m →
  F_laws_sSameRows_L1 fu X X (X.length : Int) m (k : Int) = some (.brk (X.length : Int)) := by
 intro d
 induction d with
 | zero =>
  intro k m hk hm
  cases m with
  | zero => omega
  | succ m =>
   have : k = X.length := by omega
   subst this
   simp only [F_laws_sSameRows_L1]
   rw [ilt_f (by omega), cond_false]
 | succ d ih =>
  intro k m hk hm
  cases m with
  | zero => omega
  | succ m =>
   have h1 : k < X.length := by omega
   simp only [F_laws_sSameRows_L1]
   rw [ilt_t (by omega), cond_true, gd_t (inL_nat h1), gd_t (inL_nat h1), gat_nat h1, sSame_eq (hl _ (List.getElem_mem h1)) hf, bd_of, iadd_id (by omega) (by omega), show ((k : Int) + 1) = ((k + 1 : Nat) : Int) by omega,
    decide_eq_true rfl]
   exact ih (k + 1) m (by omega) (by omega)
theorem sRows_eq {X : List (List Int)} (hX : X.length ≤ 1048576) (hl : ∀ x ∈ X, x.length ≤ 1048576) (hf : 1048576 < fu) : F_laws_sSameRows fu X X = some true := by
 unfold F_laws_sSameRows
 rw [ine_f rfl, cond_false]
 have := sRows_L (fu := fu) hX hl hf X.length 0 fu (by omega) (by omega)
 rw [Int.natCast_zero] at this
 simp only [llen]
 rw [this]
 rfl
theorem sys_le (h : sysB p = true) : p.length ≤ 12 := by
 unfold sysB at h
 rw [Bool.and_eq_true, decide_eq_true_eq] at h
 exact h.1
theorem row_of (hp : sysB p = true) {t : Nat × List Nat × Int} (ht : tab p = some t) : ((cand p.length).map fun x => F_impl_Meander_components 2000000 p x) = (dec (cand p.length).length t.1).map fun d : Nat => some (d : Int) := by
 have h := rowB_all hp
 unfold rowB at h
 rw [ht] at h
 exact eq_of_beq h
theorem cand_of (hp : sysB p = true) : p ∈ cand p.length := by
 have h := candB_all hp
 unfold candB at h
 simpa using h
theorem ex_len (hp : sysB p = true) {c : Int × Int} (hc : c ∈ csOf p) : sysB (exV p c) = true ∧ (exV p c).length = p.length := by
 obtain ⟨_, _, _, h⟩ := cs_spec hp
 obtain ⟨a, e, _, h1, h2⟩ := h c hc
 unfold exV
 rw [e]
 exact ⟨h1, h2⟩
theorem quo12 : ∀ k : Nat, k < 13 → iquo .i64 (k : Int) 2 = ((k / 2 : Nat) : Int) := by decide
end
end Go.Proofs.YtogghgecmjnieaaGreat.AL
