/- Exchanges: the program's and the reference's are one; the laws CountExchanges, ExchangeAt, ExchangesOf. No condition. -/
import Derived.Test.YtogghgecmjnieaaGreatPBC1
import Derived.Test.YtogghgecmjnieaaGreatPBC2
import Derived.Test.YtogghgecmjnieaaGreatPBC3
import Derived.Test.YtogghgecmjnieaaGreatPBN1
import Derived.Test.YtogghgecmjnieaaGreatPBN2
import Derived.Test.YtogghgecmjnieaaGreatPBN3
namespace Go.Proofs.YtogghgecmjnieaaGreat.AL
open Go Go.Proofs.YtogghgecmjnieaaGreat.Arch
set_option linter.unusedVariables false
set_option linter.unusedSimpArgs false
section
variable {fu : Nat} {p q : List Int}
theorem okC_all (hp : sysB p = true) : okC p = true := sys_ch okC_0 okC_1 okC_2 okC_3 okC_4 okC_5 okC_6 okC_7 okC_8 okC_9 okC_10 okC_11 okC_12 okC_13 okC_14 hp
theorem okN_all (hp : sysB p = true) : okN p = true := sys_ch okN_0 okN_1 okN_2 okN_3 okN_4 okN_5 okN_6 okN_7 okN_8 okN_9 okN_10 okN_11 okN_12 okN_13 okN_14 hp
theorem cs_spec (hp : sysB p = true) : F_impl_couples 2000000 p = some (csOf p) ∧ F_spec_exPairs 2000000 p = some ((csOf p).map fun x => [x.1, x.2]) ∧ (csOf p).length ≤ 15 ∧
    ∀ x ∈ csOf p, ∃ a, F_impl_exchanged 2000000 p x.1 x.2 = some a ∧ F_spec_exAt 2000000 p x.1 x.2 = some a ∧ sysB a = true ∧ a.length = p.length := by
  have h := okC_all hp
  unfold okC at h
  split at h
  · rename_i c r e1 e2
    have hc : csOf p = c := by unfold csOf; rw [e1]; rfl
    simp only [Bool.and_eq_true, decide_eq_true_eq, List.all_eq_true, beq_iff_eq] at h
    obtain ⟨h1, h2, h3⟩ := h
    rw [hc]
    refine ⟨e1, by rw [e2, h1], h2, fun x hx => ?_⟩
    have := h3 x hx
    split at this
    · rename_i a b e3 e4
      simp only [Bool.and_eq_true, decide_eq_true_eq, beq_iff_eq] at this
      obtain ⟨rfl, h4, h5⟩ := this
      exact ⟨a, e3, e4, h4, h5⟩
    · cases this
  · cases h
theorem good_eq (h : p.length ≤ 1048576) : F_spec_ahGood 2000000 p = some (sysB p) := ahGood_eq (by omega) (by omega)
theorem issys_eq (h : p.length ≤ 1048576) : F_impl_IsSystem 2000000 p = some (sysB p) := IsSystem_eq (by omega) (by omega)
def memB (c : List (Int × Int)) (i j : Int) : Bool := c.any fun x => decide (x.1 = i ∧ x.2 = j)
theorem gatI {pre rest : List (Int × Int)} {r : Int × Int} {k : Nat} (h : pre.length = k) : gat i2 (pre ++ r :: rest) (k : Int) = r := by
  subst h
  simp [gat_eq]
theorem index_L {C : List (Int × Int)} {i j : Int} (hC : C.length ≤ 1000) : ∀ (rest pre : List (Int × Int)) (k m : Nat), pre ++ rest = C → pre.length = k → rest.length < m →
    ∃ r : LR Int Int, F_slices_Index_S_2_int_L1 fu C i j (C.length : Int) m (k : Int) = some r ∧ (memB rest i j = true → ∃ z, r = .ret z ∧ 0 ≤ z) ∧ (memB rest i j = false → ∃ z, r = .brk z) := by
  intro rest
  induction rest with
  | nil =>
    intro pre k m hp hk hm
    cases m with
    | zero => simp at hm
    | succ m =>
      have : k = C.length := by rw [← hp, ← hk]; simp
      subst this
      simp only [F_slices_Index_S_2_int_L1]
      rw [ilt_f (by omega), cond_false]
      exact ⟨_, rfl, fun h => by simp [memB] at h, fun _ => ⟨_, rfl⟩⟩
  | cons x rest ih =>
    intro pre k m hp hk hm
    cases m with
    | zero => simp at hm
    | succ m =>
      have hlen : k < C.length := by rw [← hp, ← hk]; simp
      have hg : gat i2 C (k : Int) = x := by rw [← hp]; exact gatI hk
      simp only [F_slices_Index_S_2_int_L1]
      rw [ilt_t (by omega), cond_true, gd_t (inL_nat hlen), hg]
      unfold aeq2
      rw [ieq_eq, ieq_eq]
      by_cases h : x.1 = i ∧ x.2 = j
      · obtain ⟨h1, h2⟩ := h
        subst h1 h2
        simp only [beq_self_eq_true, Bool.and_self, cond_true]
        exact ⟨_, rfl, fun _ => ⟨_, rfl, by omega⟩, fun h => by simp [memB] at h⟩
      · have e : (i == x.1 && j == x.2) = false := by
          rw [Bool.eq_false_iff]
          intro h'
          simp only [Bool.and_eq_true, beq_iff_eq] at h'
          exact h ⟨h'.1.symm, h'.2.symm⟩
        rw [e, cond_false, iadd_id (by omega) (by omega), show ((k : Int) + 1) = ((k + 1 : Nat) : Int) by omega]
        have hm' : memB (x :: rest) i j = memB rest i j := by
          unfold memB
          rw [List.any_cons, decide_eq_false h, Bool.false_or]
        rw [hm']
        exact ih (pre ++ [x]) (k + 1) m (by rw [← hp]; simp) (by simp [hk]) (by simp at hm; omega)
theorem contains_eq {C : List (Int × Int)} {i j : Int} (hC : C.length ≤ 1000) (hf : 2000 < fu) : F_slices_Contains_S_2_int fu C i j = some (memB C i j) := by
  unfold F_slices_Contains_S_2_int F_slices_Index_S_2_int
  obtain ⟨r, h1, h2, h3⟩ := index_L (fu := fu) (i := i) (j := j) hC C [] 0 fu rfl rfl (by omega)
  rw [Int.natCast_zero] at h1
  simp only [llen]
  rw [h1, bd_of]
  cases hm : memB C i j
  · obtain ⟨z, rfl⟩ := h3 hm
    simp only [lr, bd_of]
    rfl
  · obtain ⟨z, rfl, hz⟩ := h2 hm
    simp only [lr, bd_of]
    rw [ile_t hz]
theorem gatC {C : List (Int × Int)} {k : Nat} (h : k < C.length) : gat [] (C.map fun x => [x.1, x.2]) (k : Int) = [(gat i2 C (k : Int)).1, (gat i2 C (k : Int)).2] := by
  rw [gat_eq, gat_eq]
  simp [List.getD_eq_getElem?_getD, h]
theorem find_L {C : List (Int × Int)} {i j : Int} (hC : C.length ≤ 1000) {a : List Int} (ha : memB C i j = true → F_spec_exAt fu p i j = some a) : ∀ (rest pre : List (Int × Int)) (k m : Nat), pre ++ rest = C → pre.length = k → rest.length < m →
    F_spec_ExchangeAt_L1 fu p i j (C.map fun x => [x.1, x.2]) (C.length : Int) m (k : Int) = some (if memB rest i j = true then .ret (a, true) else .brk (C.length : Int)) := by
  intro rest
  induction rest with
  | nil =>
    intro pre k m hp hk hm
    cases m with
    | zero => simp at hm
    | succ m =>
      have : k = C.length := by rw [← hp, ← hk]; simp
      subst this
      simp only [F_spec_ExchangeAt_L1]
      rw [ilt_f (by omega), cond_false]
      simp [memB]
  | cons x rest ih =>
    intro pre k m hp hk hm
    cases m with
    | zero => simp at hm
    | succ m =>
      have hlen : k < C.length := by rw [← hp, ← hk]; simp
      have hg : gat i2 C (k : Int) = x := by rw [← hp]; exact gatI hk
      have hgo := ih (pre ++ [x]) (k + 1) m (by rw [← hp]; simp) (by simp [hk]) (by simp at hm; omega)
      have two0 : inL [x.1, x.2] (0 : Int) := ⟨by omega, by simp⟩
      have two1 : inL [x.1, x.2] (1 : Int) := ⟨by omega, by simp⟩
      simp only [F_spec_ExchangeAt_L1]
      rw [ilt_t (by omega), cond_true, gd_t (inL_nat (by simpa using hlen)), gatC hlen, hg, gd_t two0, gd_t two1]
      rw [show gat (0 : Int) [x.1, x.2] 0 = x.1 from rfl, show gat (0 : Int) [x.1, x.2] 1 = x.2 from rfl, ieq_eq, ieq_eq, iadd_id (by omega) (by omega), show ((k : Int) + 1) = ((k + 1 : Nat) : Int) by omega, hgo]
      have hmem : memB (x :: rest) i j = (decide (x.1 = i ∧ x.2 = j) || memB rest i j) := by
        unfold memB
        rw [List.any_cons]
      rw [hmem]
      by_cases h1 : x.1 = i
      · by_cases h2 : x.2 = j
        · have hm1 : memB C i j = true := by
            unfold memB
            rw [List.any_eq_true]
            exact ⟨x, by rw [← hp]; simp, by simp [h1, h2]⟩
          simp [h1, h2, ha hm1]
        · have e2 : (x.2 == j) = false := by simpa using h2
          simp [h1, h2, e2]
      · have e1 : (x.1 == i) = false := by simpa using h1
        simp [h1, e1]
theorem mem_of_memB {C : List (Int × Int)} {i j : Int} (h : memB C i j = true) : (i, j) ∈ C := by
  unfold memB at h
  obtain ⟨x, hx, e⟩ := List.any_eq_true.1 h
  obtain ⟨e1, e2⟩ := of_decide_eq_true e
  obtain ⟨x1, x2⟩ := x
  simp only at e1 e2
  subst e1 e2
  exact hx
theorem of_eq (h : p.length ≤ 1048576) : ∃ S : List (List Int) × Bool, F_spec_ExchangesOf 2000000 p = some S ∧ F_impl_ExchangesOf 2000000 p = some S ∧ S.1.length ≤ 15 ∧ ∀ x ∈ S.1, x.length ≤ 12 := by
  cases hp : sysB p
  · unfold F_spec_ExchangesOf F_impl_ExchangesOf
    rw [good_eq h, issys_eq h, bd_of, bd_of, hp]
    exact ⟨_, rfl, rfl, by simp, by simp⟩
  · have h := okN_all hp
    unfold okN at h
    split at h
    · rename_i a t b u e1 e2
      simp only [Bool.and_eq_true, decide_eq_true_eq, List.all_eq_true, beq_iff_eq] at h
      obtain ⟨⟨rfl, rfl, rfl⟩, h3, h4⟩ := h
      exact ⟨_, e2, e1, h3, h4⟩
    · cases h
end
end Go.Proofs.YtogghgecmjnieaaGreat.AL
