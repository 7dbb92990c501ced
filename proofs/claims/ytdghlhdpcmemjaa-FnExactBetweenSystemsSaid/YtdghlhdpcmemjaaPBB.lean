/- Systems between two: the program's and the reference's are one; the law BetweenSystems holds. No condition. -/
import Derived.Test.YtdghlhdpcmemjaaPRM
import Derived.Test.YtdghlhdpcmemjaaG1
import Derived.Test.YtdghlhdpcmemjaaG2
import Derived.Test.YtdghlhdpcmemjaaG3
import Derived.Test.YtdghlhdpcmemjaaG4
import Derived.Test.YtdghlhdpcmemjaaG5
import Derived.KernelRfl
namespace Go.Proofs.Ytdghlhdpcmemjaa.AL
open Go Go.Proofs.Ytdghlhdpcmemjaa.Arch
set_option linter.unusedVariables false
set_option linter.unusedSimpArgs false
set_option maxRecDepth 100000
section
variable {fu : Nat} {P : List Int → Bool} {f : List Int → Option Bool}
theorem gatR {pre rest : List (List Int)} {r : List Int} {k : Nat} (h : pre.length = k) : gat [] (pre ++ r :: rest) (k : Int) = r := by
  subst h
  simp [gat_eq]
theorem idxR_L {X : List (List Int)} (hX : X.length ≤ 2000) : ∀ (rest pre : List (List Int)) (k m : Nat), (∀ x ∈ rest, f x = some (bnot (P x))) → pre ++ rest = X → pre.length = k → rest.length < m →
    (∃ A b T, rest = A ++ b :: T ∧ (∀ x ∈ A, P x = true) ∧ P b = false ∧ F_slices_IndexFunc_SSint_L1 fu X f (X.length : Int) m (k : Int) = some (.ret ((k + A.length : Nat) : Int))) ∨
    ((∀ x ∈ rest, P x = true) ∧ F_slices_IndexFunc_SSint_L1 fu X f (X.length : Int) m (k : Int) = some (.brk (X.length : Int))) := by
  intro rest
  induction rest with
  | nil =>
    intro pre k m hf hp hk hm
    cases m with
    | zero => simp at hm
    | succ m =>
      refine .inr ⟨by simp, ?_⟩
      have : k = X.length := by rw [← hp, ← hk]; simp
      subst this
      simp only [F_slices_IndexFunc_SSint_L1]
      rw [ilt_f (by omega), cond_false]
  | cons x rest ih =>
    intro pre k m hf hp hk hm
    cases m with
    | zero => simp at hm
    | succ m =>
      have hlen : k < X.length := by rw [← hp, ← hk]; simp
      have hg : gat [] X (k : Int) = x := by rw [← hp]; exact gatR hk
      have hin : inL X (k : Int) := inL_nat hlen
      simp only [F_slices_IndexFunc_SSint_L1]
      rw [ilt_t (by omega), cond_true, gd_t hin, hg, hf x (by simp), bd_of]
      cases hx : P x
      · exact .inl ⟨[], x, rest, rfl, by simp, hx, by simp [bnot]⟩
      · rw [show bnot true = false from rfl, cond_false, iadd_id (by omega) (by omega), show ((k : Int) + 1) = ((k + 1 : Nat) : Int) by omega]
        rcases ih (pre ++ [x]) (k + 1) m (fun y hy => hf y (by simp [hy])) (by rw [← hp]; simp) (by simp [hk]) (by simp at hm; omega) with ⟨A, b, T, e, hA, hb, h⟩ | ⟨hA, h⟩
        · refine .inl ⟨x :: A, b, T, by rw [e]; rfl, fun y hy => ?_, hb, ?_⟩
          · rcases List.mem_cons.1 hy with rfl | hy
            · exact hx
            · exact hA y hy
          · rw [h]
            simp
            omega
        · refine .inr ⟨fun y hy => ?_, h⟩
          rcases List.mem_cons.1 hy with rfl | hy
          · exact hx
          · exact hA y hy
theorem delR_L : ∀ (T W gap : List (List Int)) (m : Nat), (∀ x ∈ T, f x = some (bnot (P x))) → gap ≠ [] → (W ++ gap ++ T).length ≤ 2000 → T.length < m →
    ∃ l' : List (List Int), F_slices_DeleteFunc_SSint_L1 fu f m (W ++ gap ++ T) (W.length : Int) ((W.length + gap.length : Nat) : Int) = some (l', ((W ++ T.filter P).length : Int), (l'.length : Int)) ∧
      l'.take (W ++ T.filter P).length = W ++ T.filter P ∧ (W ++ T.filter P).length < l'.length := by
  intro T
  induction T with
  | nil =>
    intro W gap m hf hg hl hm
    cases m with
    | zero => simp at hm
    | succ m =>
      have h0 : 0 < gap.length := List.length_pos_iff.2 hg
      refine ⟨W ++ gap, ?_, by simp, by simp; omega⟩
      simp only [F_slices_DeleteFunc_SSint_L1, List.append_nil, List.filter_nil, llen]
      rw [ilt_f (by simp), cond_false]
      simp
  | cons x T ih =>
    intro W gap m hf hg hl hm
    cases m with
    | zero => simp at hm
    | succ m =>
      have h0 : 0 < gap.length := List.length_pos_iff.2 hg
      have hgat : gat [] (W ++ gap ++ x :: T) ((W.length + gap.length : Nat) : Int) = x := gatR (by simp)
      have hin : inL (W ++ gap ++ x :: T) ((W.length + gap.length : Nat) : Int) := inL_nat (by simp)
      have hl2 : (W ++ gap ++ x :: T).length ≤ 4294967296 := by omega
      simp only [List.length_append, List.length_cons] at hl
      have hm' : T.length < m := by simp at hm; omega
      have hstep : iadd .i64 ((W.length + gap.length : Nat) : Int) 1 = ((W.length + gap.length + 1 : Nat) : Int) := by rw [iadd_id (by omega) (by omega)]; omega
      simp only [F_slices_DeleteFunc_SSint_L1]
      rw [ilt_t (by simp only [llen, List.length_append, List.length_cons]; omega), cond_true, gd_t hin, gd_t (by omega), gd_t hl2, hgat, hf x (by simp), bd_of, hstep]
      cases hx : P x
      · rw [show bnot (bnot false) = false from rfl, cond_false]
        have := ih W (gap ++ [x]) m (fun y hy => hf y (by simp [hy])) (by simp) (by simp; omega) hm'
        rw [show W ++ (gap ++ [x]) ++ T = W ++ gap ++ x :: T by simp, show W.length + (gap ++ [x]).length = W.length + gap.length + 1 by simp; omega] at this
        rw [List.filter_cons_of_neg (by simp [hx])]
        exact this
      · rw [show bnot (bnot true) = true from rfl, cond_true, gd_t (inL_nat (by simp; omega)), gd_t ⟨by omega, hl2⟩]
        cases gap with
        | nil => exact absurd rfl hg
        | cons g gs =>
          have hset : lset (W ++ g :: gs ++ x :: T) (W.length : Int) x = (W ++ [x]) ++ (gs ++ [x]) ++ T := by
            simp [lset]
          have hi : iadd .i64 (W.length : Int) 1 = (((W ++ [x]).length : Nat) : Int) := by rw [iadd_id (by omega) (by omega)]; simp
          have := ih (W ++ [x]) (gs ++ [x]) m (fun y hy => hf y (by simp [hy])) (by simp) (by simp only [List.length_cons] at hl; simp; omega) hm'
          rw [hset, hi, show W.length + (g :: gs).length + 1 = (W ++ [x]).length + (gs ++ [x]).length by simp; omega]
          rw [show W ++ [x] ++ T.filter P = W ++ (x :: T).filter P by rw [List.filter_cons_of_pos hx]; simp] at this
          exact this
theorem delR_eq {X : List (List Int)} (hX : X.length ≤ 2000) (hf : 3000 < fu) (h : ∀ x ∈ X, f x = some (bnot (P x))) : F_slices_DeleteFunc_SSint fu X f = some (X.filter P) := by
  unfold F_slices_DeleteFunc_SSint F_slices_IndexFunc_SSint
  have h1 := idxR_L (fu := fu) (f := f) (P := P) hX X [] 0 fu h rfl rfl (by omega)
  rw [Int.natCast_zero] at h1
  simp only [llen]
  rcases h1 with ⟨A, b, T, e, hA, hb, h1⟩ | ⟨hA, h1⟩
  · rw [h1, bd_of, Nat.zero_add]
    simp only [lr, bd_of]
    have hl : A.length + (T.length + 1) = X.length := by rw [e]; simp
    rw [ieq_f (by omega), cond_false, iadd_id (by omega) (by omega)]
    obtain ⟨l', d1, d2, d3⟩ := delR_L (fu := fu) (f := f) (P := P) T A [b] fu (fun x hx => h x (by rw [e]; simp [hx])) (by simp) (by simp; omega) (by omega)
    rw [show A ++ [b] ++ T = X by rw [e]; simp, show ((A.length + [b].length : Nat) : Int) = (A.length : Int) + 1 by simp] at d1
    rw [d1, bd_of]
    simp only
    rw [gd_t (inL_nat d3), gd_t trivial, gd_t (inL_nat d3), Int.toNat_natCast, d2, e, List.filter_append, List.filter_cons_of_neg (by simp [hb]), List.filter_eq_self.2 hA]
  · rw [h1, bd_of]
    simp only [lr, bd_of]
    rw [ieq_t rfl, cond_true, List.filter_eq_self.2 hA]
def listsB (n : Int) : Bool := match F_impl_systems 2000000 n, F_spec_ahAll 2000000 n 0 with
  | some a, some b => (a == b) && (decide (a.length ≤ 42) && a.all fun p => sysB p && decide ((p.length : Int) = 2 * n))
  | _, _ => false
theorem lists0 : listsB 0 = true := by kernel_rfl
theorem lists1 : listsB 1 = true := by kernel_rfl
theorem lists2 : listsB 2 = true := by kernel_rfl
theorem lists3 : listsB 3 = true := by kernel_rfl
theorem lists4 : listsB 4 = true := by kernel_rfl
theorem lists5 : listsB 5 = true := by kernel_rfl
theorem lists_of {n : Int} (h : listsB n = true) : ∃ L, F_impl_systems 2000000 n = some L ∧ F_spec_ahAll 2000000 n 0 = some L ∧ L.length ≤ 42 ∧ ∀ p ∈ L, sysB p = true ∧ (p.length : Int) = 2 * n := by
  unfold listsB at h
  split at h
  · rename_i a b e1 e2
    simp only [Bool.and_eq_true, decide_eq_true_eq, List.all_eq_true, beq_iff_eq] at h
    obtain ⟨rfl, h2, h3⟩ := h
    exact ⟨a, e1, e2, h2, h3⟩
  · cases h
theorem lists_all {n : Int} (h0 : 0 ≤ n) (h1 : n ≤ 5) : listsB n = true := by
  rcases (by omega : n = 0 ∨ n = 1 ∨ n = 2 ∨ n = 3 ∨ n = 4 ∨ n = 5) with rfl | rfl | rfl | rfl | rfl | rfl
  · exact lists0
  · exact lists1
  · exact lists2
  · exact lists3
  · exact lists4
  · exact lists5
theorem quo10 : ∀ k : Nat, k < 11 → iquo .i64 (k : Int) 2 = ((k / 2 : Nat) : Int) := by decide
def betP (a b p : List Int) : Bool := ieq (iadd .i64 (distV a p) (distV p b)) (distV a b)
theorem bs_L {a b : List Int} {X : List (List Int)} (hX : X.length ≤ 2000) (hab : pairB a b = true) : ∀ (rest pre l : List (List Int)) (k m : Nat), (∀ x ∈ rest, pairB a x = true ∧ pairB x b = true) → pre ++ rest = X → pre.length = k → rest.length < m → l.length ≤ k →
    F_spec_BetweenSystems_L1 fu a b X (X.length : Int) m l (k : Int) = some (l ++ rest.filter (betP a b), (X.length : Int)) := by
  intro rest
  induction rest with
  | nil =>
    intro pre l k m hf hp hk hm hc
    cases m with
    | zero => simp at hm
    | succ m =>
      have : k = X.length := by rw [← hp, ← hk]; simp
      subst this
      simp only [F_spec_BetweenSystems_L1]
      rw [ilt_f (by omega), cond_false]
      simp
  | cons x rest ih =>
    intro pre l k m hf hp hk hm hc
    cases m with
    | zero => simp at hm
    | succ m =>
      have hlen : k < X.length := by rw [← hp, ← hk]; simp
      have hg : gat [] X (k : Int) = x := by rw [← hp]; exact gatR hk
      obtain ⟨p1, p2⟩ := hf x (by simp)
      simp only [F_spec_BetweenSystems_L1]
      rw [ilt_t (by omega), cond_true, gd_t (inL_nat hlen), gd_t (by omega), hg]
      unfold F_spec_exDistance
      rw [if_pos p1, if_pos p2, if_pos hab, bd_of, bd_of, bd_of, iadd_id (a := (k : Int)) (by omega) (by omega), show ((k : Int) + 1) = ((k + 1 : Nat) : Int) by omega]
      cases hx : betP a b x
      · rw [show ieq (iadd .i64 (distV a x) (distV x b)) (distV a b) = false from hx, cond_false, ih (pre ++ [x]) l (k + 1) m (fun y hy => hf y (by simp [hy])) (by rw [← hp]; simp) (by simp [hk]) (by simp at hm; omega) (by omega), List.filter_cons_of_neg (by simp [hx])]
      · rw [show ieq (iadd .i64 (distV a x) (distV x b)) (distV a b) = true from hx, cond_true, gd_t (by omega), ih (pre ++ [x]) (lapp l [x]) (k + 1) m (fun y hy => hf y (by simp [hy])) (by rw [← hp]; simp) (by simp [hk]) (by simp at hm; omega) (by simp [lapp]; omega), List.filter_cons_of_pos hx]
        simp [lapp]
theorem between_eq {a b : List Int} (ha : a.length ≤ 1048576) (hb : b.length ≤ 1048576) : ∃ S : List (List Int) × Bool, F_spec_BetweenSystems 2000000 a b = some S ∧ F_impl_BetweenSystems 2000000 a b = some S ∧ S.1.length ≤ 42 ∧ ∀ x ∈ S.1, x.length ≤ 12 := by
  unfold F_spec_BetweenSystems F_impl_BetweenSystems F_spec_exFew F_impl_isExchanged F_spec_exPair F_impl_IsPair
  rw [if_pos ⟨by omega, by omega⟩, bd_of]
  cases h : pairB a b
  · exact ⟨_, rfl, rfl, by simp, by simp⟩
  · rw [cond_true, bd_of, ile_eq]
    cases hl : decide (llen a ≤ 10)
    · exact ⟨_, rfl, rfl, by simp, by simp⟩
    · have hl : a.length ≤ 10 := by
        have h0 := of_decide_eq_true hl
        unfold llen at h0
        omega
      have hp := h
      unfold pairB sysB at hp
      simp only [Bool.and_eq_true, decide_eq_true_eq] at hp
      obtain ⟨⟨⟨h1, h2⟩, h3, h4⟩, h5⟩ := hp
      have hev : a.length % 2 = 0 := by
        unfold arcB at h2
        simp only [Bool.and_eq_true, decide_eq_true_eq] at h2
        exact h2.1
      obtain ⟨X, e1, e2, l1, l2⟩ := lists_of (lists_all (n := ((a.length / 2 : Nat) : Int)) (by omega) (by omega))
      have hs : ∀ x ∈ X, pairB a x = true ∧ pairB x b = true := fun x hx => by
        obtain ⟨s1, s2⟩ := l2 x hx
        have hxl : a.length = x.length := by omega
        have hsa : sysB a = true := by unfold sysB; simp [h1, h2]
        have hsb : sysB b = true := by unfold sysB; simp [h3, h4]
        unfold pairB
        rw [hsa, hsb, s1]
        simp [hxl, ← h5]
      have c := bs_L (fu := 2000000) (X := X) (by omega) h X [] [] 0 2000000 hs rfl rfl (by omega) (Nat.le_refl _)
      have d := delR_eq (fu := 2000000) (P := betP a b) (X := X) (f := fun y0 => F_impl_BetweenSystems_1 2000000 y0 a b) (by omega) (by omega) (fun x hx => by
        obtain ⟨p1, p2⟩ := hs x hx
        unfold F_impl_BetweenSystems_1 F_impl_distance
        rw [if_pos p1, if_pos p2, if_pos h, bd_of, bd_of, bd_of]
        unfold betP
        rw [ine_eq, ieq_eq]
        cases hz : (iadd .i64 (distV a x) (distV x b) == distV a b) <;> simp_all [bnot])
      rw [Int.natCast_zero] at c
      rw [bd_of, show bnot true = false from rfl, cond_false, cond_false]
      simp only [llen]
      rw [quo10 _ (by omega), e1, e2, bd_of, bd_of, d, bd_of, c, bd_of]
      have hle := List.length_filter_le (betP a b) X
      refine ⟨_, rfl, rfl, by simp only [List.nil_append]; omega, fun x hx => ?_⟩
      have hx' : x ∈ X := (List.mem_filter.1 (by simpa using hx)).1
      obtain ⟨a1, a2⟩ := l2 x hx'
      omega
theorem law_BetweenSystems {a b : List Int} (ha : a.length ≤ 9223372036854775807) (hb : b.length ≤ 9223372036854775807) : F_laws_FnExactBetweenSystems 2000000 a b = some true := by
  unfold F_laws_FnExactBetweenSystems
  by_cases h1 : a.length ≤ 1048576
  · rw [ilt_f (by simp only [llen]; omega), cond_false]
    by_cases h2 : b.length ≤ 1048576
    · rw [ilt_f (by simp only [llen]; omega), cond_false]
      have t1 := toIntS_eq (fu := 2000000) (xs := a) (by omega) (by omega)
      have t2 := toIntS_eq (fu := 2000000) (xs := b) (by omega) (by omega)
      have q1 := eqIntS_eq (fu := 2000000) (xs := a) (by omega) (by omega)
      have q2 := eqIntS_eq (fu := 2000000) (xs := b) (by omega) (by omega)
      obtain ⟨S, e1, e2, l1, l2⟩ := between_eq (a := a) (b := b) h1 h2
      have hc := cellsN_le l2
      have l3 : ∀ r ∈ S.1, r.length ≤ 1048576 := fun r hr => by
        have := l2 r hr
        omega
      have m0 := markIntS_eq (fu := 2000000) (xs := a) (m := 1) (by omega) (by omega) (by omega)
      have m2 := markIntS_eq (fu := 2000000) (xs := b) (m := 1 + (a.length : Int)) (by omega) (by omega) (by omega)
      have m1 := markSS_eq (fu := 2000000) (rs := S.1) (m := 1) (by omega) (by omega) (by omega) (by omega) l3
      have h3 := heldSS_eq (fu := 2000000) (rs := S.1) (m := 1) (by omega) (by omega) (by omega) (by omega) l3
      have q3 := eqSS_eq (fu := 2000000) (rs := S.1) (by omega) (by omega) l3
      have n1 : ilt (1 + (a.length : Int) + (b.length : Int)) 0 = false := ilt_f (by omega)
      have n2 : ilt (1 + (cellsN S.1 : Int)) 0 = false := ilt_f (by omega)
      simp [t1, t2, q1, q2, q3, m0, m1, m2, h3, e1, e2, n1, n2, bnot, bne', ine_eq]
    · rw [ilt_t (by simp only [llen]; omega), cond_true]
  · rw [ilt_t (by simp only [llen]; omega), cond_true]
end
end Go.Proofs.Ytdghlhdpcmemjaa.AL
