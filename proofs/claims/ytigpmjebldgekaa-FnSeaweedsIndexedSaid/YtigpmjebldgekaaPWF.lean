/- The law FnSeaweedsIndexed. No condition. -/
import Derived.Test.YtigpmjebldgekaaPWB
import Derived.Test.YtigpmjebldgekaaPSWF
import Derived.Test.YtigpmjebldgekaaPDRF
import Derived.KernelRfl
namespace Go.Proofs.Ytigpmjebldgekaa.AL
open Go
set_option linter.unusedVariables false
set_option linter.unusedSimpArgs false
set_option maxRecDepth 100000
theorem bneS (b : Bool) : bne' b b = false := by cases b <;> rfl
section
variable {fu : Nat} {p q p' q' : List Int}
theorem ySame_L {a : List Int} (ha : a.length ≤ 100000) : ∀ (d k m : Nat), k + d = a.length → d < m → F_laws_ySame_L1 fu a a (a.length : Int) m (k : Int) = some (.brk (a.length : Int)) := by
  intro d
  induction d with
  | zero =>
    intro k m hk hm
    cases m with
    | zero => omega
    | succ m =>
      have : k = a.length := by omega
      subst this
      simp only [F_laws_ySame_L1]
      rw [ilt_f (by omega), cond_false]
  | succ d ih =>
    intro k m hk hm
    cases m with
    | zero => omega
    | succ m =>
      have h1 : k < a.length := by omega
      simp only [F_laws_ySame_L1]
      rw [ilt_t (by omega), cond_true, gd_t (inL_nat h1), gd_t (inL_nat h1), ine_f rfl, cond_false, iadd_id (by omega) (by omega), show ((k : Int) + 1) = ((k + 1 : Nat) : Int) by omega]
      exact ih (k + 1) m (by omega) (by omega)
theorem ySame_eq {a : List Int} (ha : a.length ≤ 100000) (hf : 200000 < fu) : F_laws_ySame fu a a = some true := by
  unfold F_laws_ySame
  rw [ine_f rfl, cond_false]
  have := ySame_L (fu := fu) ha a.length 0 fu (by omega) (by omega)
  rw [Int.natCast_zero] at this
  simp only [llen]
  rw [this]
  rfl
theorem yWeed_eq (hp : p.length ≤ 100000) (hq : q.length ≤ 100000) (hf : 200000 < fu) : F_laws_yWeed fu p q p q = some true := by
  unfold F_laws_yWeed
  rw [ySame_eq hp hf, ySame_eq hq hf]
  rfl
theorem back_L {x : List Int} (hx : x.length ≤ 100000) : ∀ (k m : Nat) (l : List Int), k ≤ x.length → k < m → l.length + k ≤ x.length → F_spec_swBack_L1 fu x m l ((k : Int) - 1) = some (l ++ (x.take k).reverse, -1) := by
  intro k
  induction k with
  | zero =>
    intro m l hk hm hl
    cases m with
    | zero => omega
    | succ m =>
      simp only [F_spec_swBack_L1]
      rw [ile_f (by omega), cond_false]
      simp
  | succ k ih =>
    intro m l hk hm hl
    cases m with
    | zero => omega
    | succ m =>
      have h1 : k < x.length := by omega
      simp only [F_spec_swBack_L1]
      rw [show (((k + 1 : Nat) : Int) - 1) = (k : Int) by omega, ile_t (by omega), cond_true, gd_t (inL_nat h1), gd_t (by simp only [List.length_singleton]; omega), gat_nat h1, isub_id (by omega) (by omega), ih m _ (by omega) (by omega) (by simp [lapp]; omega)]
      have e : (x.take (k + 1)).reverse = x[k] :: (x.take k).reverse := by
        rw [List.take_succ_eq_append_getElem h1, List.reverse_append]
        rfl
      rw [e]
      simp [lapp]
theorem back_eq {x : List Int} (hx : x.length ≤ 100000) (hf : 200000 < fu) : F_spec_swBack fu x = some x.reverse := by
  unfold F_spec_swBack
  have := back_L (fu := fu) hx x.length fu [] (Nat.le_refl _) (by omega) (by simp)
  simp only [llen]
  rw [isub_id (by omega) (by omega), this, bd_of]
  simp
def Half (x l : List Int) (i : Nat) : Prop := l.length = x.length ∧ ∀ k, k < x.length → l[k]? = if k < i ∨ x.length ≤ k + i then x[x.length - 1 - k]? else x[k]?
theorem rev_L {x : List Int} (hx : x.length ≤ 100000) : ∀ (d i m : Nat) (l : List Int), i + d = x.length / 2 → d < m → Half x l i → ∃ y z, F_slices_Reverse_Sint_L1 fu m l (i : Int) ((x.length : Int) - 1 - (i : Int)) = some (x.reverse, y, z) := by
  intro d
  induction d with
  | zero =>
    intro i m l hi hm h
    cases m with
    | zero => omega
    | succ m =>
      simp only [F_slices_Reverse_Sint_L1]
      rw [ilt_f (by omega), cond_false]
      have : l = x.reverse := by
        apply List.ext_getElem?
        intro k
        by_cases hk : k < x.length
        · rw [h.2 k hk, List.getElem?_reverse hk]
          split
          · rfl
          · congr 1
            omega
        · rw [List.getElem?_eq_none (by rw [h.1]; omega), List.getElem?_eq_none (by simp; omega)]
      rw [this]
      exact ⟨_, _, rfl⟩
  | succ d ih =>
    intro i m l hi hm h
    cases m with
    | zero => omega
    | succ m =>
      obtain ⟨hl, hg⟩ := h
      have hj : (x.length : Int) - 1 - (i : Int) = ((x.length - 1 - i : Nat) : Int) := by omega
      have h1 : i < l.length := by omega
      have h2 : x.length - 1 - i < l.length := by omega
      have h3 : inL (lset l (i : Int) (gat 0 l ((x.length - 1 - i : Nat) : Int))) ((x.length - 1 - i : Nat) : Int) := by
        rw [lset_nat]
        exact inL_nat (by simpa using h2)
      simp only [F_slices_Reverse_Sint_L1]
      rw [hj, ilt_t (by omega), cond_true, gd_t (inL_nat h2), gd_t (inL_nat h1), gd_t (inL_nat h1), gd_t h3, lset_nat, lset_nat, gat_nat h1, gat_nat h2, iadd_id (by omega) (by omega), isub_id (by omega) (by omega), show ((i : Int) + 1) = ((i + 1 : Nat) : Int) by omega,
        show (((x.length - 1 - i : Nat) : Int) - 1) = (x.length : Int) - 1 - ((i + 1 : Nat) : Int) by omega]
      refine ih (i + 1) m _ (by omega) (by omega) ⟨by simp [hl], fun k hk => ?_⟩
      have g1 := hg i (by omega)
      have g2 := hg (x.length - 1 - i) (by omega)
      rw [if_neg (by omega), List.getElem?_eq_getElem h1] at g1
      rw [if_neg (by omega), List.getElem?_eq_getElem h2] at g2
      rw [List.getElem?_set]
      by_cases e1 : x.length - 1 - i = k
      · rw [if_pos e1, if_pos (by simp; omega), g1, if_pos (by omega)]
        congr 1
        omega
      · rw [if_neg e1, List.getElem?_set]
        by_cases e2 : i = k
        · rw [if_pos e2, if_pos h1, g2, if_pos (by omega)]
          congr 1
          omega
        · rw [if_neg e2, hg k hk]
          by_cases c : k < i ∨ x.length ≤ k + i
          · rw [if_pos c, if_pos (by omega)]
          · rw [if_neg c, if_neg (by omega)]
theorem rev_eq {x : List Int} (hx : x.length ≤ 100000) (hf : 200000 < fu) : F_slices_Reverse_Sint fu x = some x.reverse := by
  unfold F_slices_Reverse_Sint
  obtain ⟨y, z, h⟩ := rev_L (fu := fu) hx (x.length / 2) 0 fu x (by omega) (by omega) ⟨rfl, fun k hk => by
    rw [if_neg (by omega)]⟩
  rw [Int.natCast_zero] at h
  simp only [llen]
  rw [isub_id (by omega) (by omega), show ((x.length : Int) - 1) = (x.length : Int) - 1 - 0 by omega, h, bd_of]
theorem nat_sum (h : weedB p q = true) : (q.map Int.toNat).sum = (p.map Int.toNat).sum := by
  obtain ⟨⟨a1, a2, a3⟩, ⟨b1, b2, b3⟩, c⟩ := weed_parts h
  have := (nats_of a1).2
  have := (nats_of b1).2
  omega
theorem grps_cnt (h : weedB p q = true) (b : Bool) : (grpsOf p q b).length = Grp.cnt (Grp.arcF (p.map Int.toNat)) (Grp.arcF (q.map Int.toNat)) b (p.map Int.toNat).sum := by
  unfold grpsOf
  have i1 := Grp.arcF_inv (p.map Int.toNat)
  have i2 := Grp.arcF_inv (q.map Int.toNat)
  rw [nat_sum h] at i2
  exact Grp.told_cnt i1 i2 _ (Nat.le_refl _)
theorem idx_of {a b c d : List Int} (h : (grpsOf a b true).length = (grpsOf c d true).length) (h' : (grpsOf a b false).length = (grpsOf c d false).length) : idxOf a b = idxOf c d := by
  unfold idxOf
  simp only [llen]
  rw [h, h']
theorem weed_flip (h : weedB p q = true) : weedB q p = true := by
  unfold weedB at h ⊢
  simp only [Bool.and_eq_true, decide_eq_true_eq] at h ⊢
  exact ⟨⟨h.1.2, h.1.1⟩, h.2.symm⟩
theorem flip_idx (h : weedB p q = true) : idxOf q p = idxOf p q := by
  have key : ∀ b, (grpsOf q p b).length = (grpsOf p q b).length := fun b => by
    rw [grps_cnt (weed_flip h), grps_cnt h, Grp.cnt_swap, nat_sum h]
  exact idx_of (key true) (key false)
theorem parts_rev (h : partsB p = true) : partsB p.reverse = true := by
  unfold partsB inW at h ⊢
  simp only [List.length_reverse, List.all_reverse, List.sum_reverse]
  exact h
theorem weed_rev (h : weedB p q = true) : weedB p.reverse q.reverse = true := by
  unfold weedB at h ⊢
  simp only [Bool.and_eq_true, decide_eq_true_eq] at h ⊢
  refine ⟨⟨parts_rev h.1.1, parts_rev h.1.2⟩, ?_⟩
  simp only [List.sum_reverse]
  exact h.2
theorem rev_idx (h : weedB p q = true) : idxOf p.reverse q.reverse = idxOf p q := by
  have key : ∀ b, (grpsOf p.reverse q.reverse b).length = (grpsOf p q b).length := fun b => by
    rw [grps_cnt (weed_rev h), grps_cnt h, List.map_reverse, List.map_reverse, List.sum_reverse, Grp.cnt_mirror (nat_sum h)]
  exact idx_of (key true) (key false)
theorem len_sum : ∀ {p : List Int}, inW p = true → (p.length : Int) ≤ p.sum
  | [], _ => by simp
  | x :: p, h => by
    unfold inW at h
    simp only [List.all_cons, Bool.and_eq_true, decide_eq_true_eq] at h
    have := len_sum (p := p) h.2
    rw [List.length_cons, List.sum_cons]
    omega
theorem parts_app (h : partsB p = true) (h' : partsB p' = true) : partsB (p ++ p') = decide (p.sum + p'.sum ≤ 20) := by
  obtain ⟨a1, a2, a3⟩ := partsB_in h
  obtain ⟨b1, b2, b3⟩ := partsB_in h'
  have hw : inW (p ++ p') = true := by
    unfold inW at a1 b1 ⊢
    rw [List.all_append, a1, b1]
    rfl
  have := len_sum hw
  unfold partsB
  rw [hw, List.sum_append]
  rw [List.sum_append] at this
  by_cases c : p.sum + p'.sum ≤ 20
  · rw [decide_eq_true c, decide_eq_true (by omega)]
    rfl
  · rw [decide_eq_false c, Bool.and_false]
theorem weed_app (h : weedB p q = true) (h' : weedB p' q' = true) : weedB (p ++ p') (q ++ q') = decide (p.sum + p'.sum ≤ 20) := by
  unfold weedB at h h' ⊢
  simp only [Bool.and_eq_true, decide_eq_true_eq] at h h'
  rw [parts_app h.1.1 h'.1.1, parts_app h.1.2 h'.1.2, ← h.2, ← h'.2, List.sum_append, List.sum_append, h.2, h'.2, decide_eq_true (rfl : q.sum + q'.sum = q.sum + q'.sum)]
  simp
theorem idx_val (h : weedB p q = true) : ∃ c d : Nat, (grpsOf p q false).length = c ∧ (grpsOf p q true).length = d ∧ c ≤ 20 ∧ d ≤ 20 ∧ idxOf p q = 2 * (c : Int) + (d : Int) - 1 := by
  have hl := (grps_len h).1
  refine ⟨_, _, rfl, rfl, by omega, by omega, ?_⟩
  unfold idxOf
  simp only [llen]
  have e : imul .i64 2 ((grpsOf p q false).length : Int) = 2 * ((grpsOf p q false).length : Int) := (wrF_eq _ _).trans (wrap_id (by omega) (by omega))
  rw [e, iadd_id (by omega) (by omega), isub_id (by omega) (by omega)]
theorem join_idx (h : weedB p q = true) (h' : weedB p' q' = true) (hs : p.sum + p'.sum ≤ 20) : ieq (idxOf (p ++ p') (q ++ q')) (iadd .i64 (iadd .i64 (idxOf p q) (idxOf p' q')) 1) = true := by
  have hw : weedB (p ++ p') (q ++ q') = true := by
    rw [weed_app h h']
    exact decide_eq_true hs
  have key : ∀ b, (grpsOf (p ++ p') (q ++ q') b).length = (grpsOf p q b).length + (grpsOf p' q' b).length := fun b => by
    rw [grps_cnt hw, grps_cnt h, grps_cnt h', List.map_append, List.map_append, List.sum_append, Grp.cnt_two (nat_sum h) (nat_sum h')]
  obtain ⟨c, d, e1, e2, e3, e4, e5⟩ := idx_val h
  obtain ⟨c', d', f1, f2, f3, f4, f5⟩ := idx_val h'
  obtain ⟨c2, d2, g1, g2, g3, g4, g5⟩ := idx_val hw
  have k1 := key false
  have k2 := key true
  rw [e5, f5, g5, iadd_id (a := 2 * (c : Int) + (d : Int) - 1) (by omega) (by omega), iadd_id (by omega) (by omega)]
  exact ieq_t (by omega)
theorem index_eq : F_impl_IndexOf 2000000 p q = some (if weedB p q = true then (idxOf p q, true) else (0, false)) ∧ F_spec_IndexOf 2000000 p q = some (if weedB p q = true then (idxOf p q, true) else (0, false)) := by
  unfold F_impl_IndexOf F_spec_IndexOf
  rw [swGood_eq (by omega), isWeed_eq (by omega), bd_of, bd_of]
  cases h : weedB p q
  · exact ⟨rfl, rfl⟩
  · simp only [bnot, Bool.not_true, cond_false, iIndex h (show 100000 < 2000000 by omega), sIndex h (show 100000 < 2000000 by omega), bd_of]
    exact ⟨rfl, rfl⟩
theorem both_eq (h : weedB p q = true) : F_impl_CountBoth 2000000 p q = some (llen (grpsOf p q true), llen (grpsOf p q false), true) := by
  unfold F_impl_CountBoth
  rw [isWeed_eq (by omega), h, bd_of]
  simp only [bnot, Bool.not_true, cond_false, iGroups h (show 100000 < 2000000 by omega), bd_of]
theorem flip_eq : F_impl_FlipSeaweed 2000000 p q = some (if weedB p q = true then ((q, p), true) else (([], []), false)) ∧ F_spec_FlipSeaweed 2000000 p q = some (if weedB p q = true then ((q, p), true) else (([], []), false)) := by
  unfold F_impl_FlipSeaweed F_spec_FlipSeaweed
  rw [swGood_eq (by omega), isWeed_eq (by omega), bd_of, bd_of]
  cases h : weedB p q
  · exact ⟨rfl, rfl⟩
  · obtain ⟨⟨a1, a2, a3⟩, ⟨b1, b2, b3⟩, c⟩ := weed_parts h
    simp only [bnot, Bool.not_true, cond_false]
    rw [clone_eq (by omega), clone_eq (by omega), own_eq (by omega), own_eq (by omega)]
    exact ⟨rfl, rfl⟩
theorem mirror_eq : F_impl_MirrorSeaweed 2000000 p q = some (if weedB p q = true then ((p.reverse, q.reverse), true) else (([], []), false)) ∧ F_spec_MirrorSeaweed 2000000 p q = some (if weedB p q = true then ((p.reverse, q.reverse), true) else (([], []), false)) := by
  unfold F_impl_MirrorSeaweed F_spec_MirrorSeaweed
  rw [swGood_eq (by omega), isWeed_eq (by omega), bd_of, bd_of]
  cases h : weedB p q
  · exact ⟨rfl, rfl⟩
  · obtain ⟨⟨a1, a2, a3⟩, ⟨b1, b2, b3⟩, c⟩ := weed_parts h
    simp only [bnot, Bool.not_true, cond_false]
    rw [clone_eq (by omega), clone_eq (by omega), back_eq (by omega) (by omega), back_eq (by omega) (by omega)]
    simp only [bd_of]
    rw [rev_eq (by omega) (by omega), rev_eq (by omega) (by omega)]
    exact ⟨rfl, rfl⟩
theorem join_eq (l1 : p.length ≤ 1000) (l2 : q.length ≤ 1000) (l3 : p'.length ≤ 1000) (l4 : q'.length ≤ 1000) : ∃ S : (List Int × List Int) × Bool, F_impl_JoinSeaweeds 2000000 p q p' q' = some S ∧ F_spec_JoinSeaweeds 2000000 p q p' q' = some S ∧ S.1.1.length ≤ 100000 ∧ S.1.2.length ≤ 100000 ∧
    (S.2 = true → weedB p q = true ∧ weedB p' q' = true ∧ p.sum + p'.sum ≤ 20 ∧ S.1 = (p ++ p', q ++ q')) := by
  unfold F_impl_JoinSeaweeds F_spec_JoinSeaweeds
  rw [concat_eq (by omega) (by omega) (by omega), concat_eq (by omega) (by omega) (by omega), bd_of, bd_of, isWeed_eq (by omega), isWeed_eq (by omega), isWeed_eq (by omega), swGood_eq (by omega), swGood_eq (by omega), bd_of, bd_of, bd_of, bd_of]
  cases h : weedB p q
  · exact ⟨_, rfl, rfl, by simp, by simp, fun h => by cases h⟩
  · cases h' : weedB p' q'
    · exact ⟨_, rfl, rfl, by simp, by simp, fun h => by cases h⟩
    · obtain ⟨⟨a1, a2, a3⟩, ⟨b1, b2, b3⟩, c⟩ := weed_parts h
      obtain ⟨⟨a1', a2', a3'⟩, ⟨b1', b2', b3'⟩, c'⟩ := weed_parts h'
      have s0 := len_sum a1
      have s1 := len_sum a1'
      rw [swSum_eq a1 a2 (by omega), swSum_eq a1' a2' (by omega), weed_app h h']
      simp only [bnot, Bool.not_true, cond_false, bd_of]
      rw [iadd_id (by omega) (by omega)]
      by_cases hs : p.sum + p'.sum ≤ 20
      · rw [decide_eq_true hs, ilt_f (by omega)]
        simp only [Bool.not_true, cond_false]
        rw [own_eq (by omega), own_eq (by omega), bd_of, gd_t (by omega), bd_of, gd_t (by omega)]
        refine ⟨_, rfl, rfl, by simp; omega, by simp; omega, fun _ => ⟨trivial, trivial, hs, rfl⟩⟩
      · rw [decide_eq_false hs, ilt_t (by omega)]
        exact ⟨_, rfl, rfl, by simp, by simp, fun h => by cases h⟩
end
theorem gcd_eq : ∀ (fu : Nat) (a b : Int), F_laws_yGcd fu a b = F_spec_swGcd fu a b
  | 0, _, _ => rfl
  | fu + 1, a, b => by simp only [F_laws_yGcd, F_spec_swGcd, gcd_eq fu]
def q2B (a b : Int) : Bool := !partsB [a, b] || match F_spec_swIndex 2000000 [a, b] [a + b], F_spec_swGcd 2000000 a b with
  | some u, some v => u == isub .i64 v 1
  | _, _ => false
def q3B (a b c : Int) : Bool := !partsB [a, b, c] || match F_spec_swIndex 2000000 [a, b, c] [a + b + c], F_spec_swGcd 2000000 (a + b) (b + c) with
  | some u, some v => u == isub .i64 v 1
  | _, _ => false
def twoA : List Int := [1, 2, 3, 4, 6, 8, 9, 10, 12, 0, 4611686018427387904]
def twoC : List Int := [1, 2, 3, 4, 6, 8, 10, 11, (-1), 4611686018427387904]
def thrA : List Int := [1, 2, 3, 4, 5, 6, 0]
def thrC : List Int := [1, 2, 3, 4, 6, 8, 4611686018427387904]
def thrE : List Int := [1, 2, 3, 5, 7, 8, (-1)]
theorem q2_1 : (twoA.take 4).all (fun a => twoC.all fun b => q2B a b) = true := by kernel_rfl
theorem q2_2 : (twoA.drop 4).all (fun a => twoC.all fun b => q2B a b) = true := by kernel_rfl
theorem q3_1 : ([1] : List Int).all (fun a => thrC.all fun b => thrE.all fun c => q3B a b c) = true := by kernel_rfl
theorem q3_2 : ([2] : List Int).all (fun a => thrC.all fun b => thrE.all fun c => q3B a b c) = true := by kernel_rfl
theorem q3_3 : ([3] : List Int).all (fun a => thrC.all fun b => thrE.all fun c => q3B a b c) = true := by kernel_rfl
theorem q3_4 : ([4] : List Int).all (fun a => thrC.all fun b => thrE.all fun c => q3B a b c) = true := by kernel_rfl
theorem q3_5 : ([5] : List Int).all (fun a => thrC.all fun b => thrE.all fun c => q3B a b c) = true := by kernel_rfl
theorem q3_6 : ([6, 0] : List Int).all (fun a => thrC.all fun b => thrE.all fun c => q3B a b c) = true := by kernel_rfl
theorem q2_all {a b : Int} (ha : a ∈ twoA) (hb : b ∈ twoC) : q2B a b = true := by
  have : a ∈ twoA.take 4 ++ twoA.drop 4 := by rw [List.take_append_drop]; exact ha
  rcases List.mem_append.1 this with h | h
  · exact List.all_eq_true.1 (List.all_eq_true.1 q2_1 a h) b hb
  · exact List.all_eq_true.1 (List.all_eq_true.1 q2_2 a h) b hb
theorem q3_all {a b c : Int} (ha : a ∈ thrA) (hb : b ∈ thrC) (hc : c ∈ thrE) : q3B a b c = true := by
  have : a ∈ ([1] : List Int) ∨ a ∈ ([2] : List Int) ∨ a ∈ ([3] : List Int) ∨ a ∈ ([4] : List Int) ∨ a ∈ ([5] : List Int) ∨ a ∈ ([6, 0] : List Int) := by
    simpa [thrA] using ha
  rcases this with h | h | h | h | h | h
  · exact List.all_eq_true.1 (List.all_eq_true.1 (List.all_eq_true.1 q3_1 a h) b hb) c hc
  · exact List.all_eq_true.1 (List.all_eq_true.1 (List.all_eq_true.1 q3_2 a h) b hb) c hc
  · exact List.all_eq_true.1 (List.all_eq_true.1 (List.all_eq_true.1 q3_3 a h) b hb) c hc
  · exact List.all_eq_true.1 (List.all_eq_true.1 (List.all_eq_true.1 q3_4 a h) b hb) c hc
  · exact List.all_eq_true.1 (List.all_eq_true.1 (List.all_eq_true.1 q3_5 a h) b hb) c hc
  · exact List.all_eq_true.1 (List.all_eq_true.1 (List.all_eq_true.1 q3_6 a h) b hb) c hc
theorem one_parts {s : Int} (h0 : 1 ≤ s) (h1 : s ≤ 20) : partsB [s] = true := by
  unfold partsB inW
  simp [h0, h1]
theorem for_eq {ps : List Int} : F_impl_indexFor 2000000 ps = some (if partsB ps = true ∧ 1 ≤ ps.sum then (idxOf ps [ps.sum], true) else if partsB ps = true then ((F_impl_Seaweed_index 2000000 ps [ps.sum]).getD 0, true) else (0, false)) ∨ (partsB ps = true ∧ ps.sum < 1) := by
  unfold F_impl_indexFor
  rw [iParts_eq (by omega), bd_of]
  cases h : partsB ps
  · exact .inl rfl
  · obtain ⟨a1, a2, a3⟩ := partsB_in h
    by_cases h1 : 1 ≤ ps.sum
    · left
      have hw : weedB ps [ps.sum] = true := by
        unfold weedB
        rw [h, one_parts h1 a3]
        simp
      rw [sum_eq, swSum_eq a1 a2 (by omega)]
      simp only [bnot, Bool.not_true, cond_false, bd_of]
      rw [iIndex hw (by omega), bd_of, if_pos ⟨trivial, h1⟩]
    · exact .inr ⟨rfl, by omega⟩
theorem two_all {a b : Int} (h : q2B a b = true) : (F_impl_IndexOfTwo 2000000 a b = some (0, false) ∧ F_spec_IndexOfTwo 2000000 a b = some (0, false)) ∨
    ∃ g, F_laws_yGcd 2000000 a b = some g ∧ F_impl_IndexOfTwo 2000000 a b = some (isub .i64 g 1, true) ∧ F_spec_IndexOfTwo 2000000 a b = some (isub .i64 g 1, true) ∧ F_impl_IndexOf 2000000 [a, b] [iadd .i64 a b] = some (isub .i64 g 1, true) := by
  have hsum : [a, b].sum = a + b := by simp
  rcases for_eq (ps := [a, b]) with hf | ⟨h1, h2⟩
  · unfold F_impl_IndexOfTwo F_spec_IndexOfTwo
    rw [hf, sParts_eq (by omega), bd_of, bd_of]
    cases hp : partsB [a, b]
    · exact .inl ⟨rfl, rfl⟩
    · right
      obtain ⟨a1, a2, a3⟩ := partsB_in hp
      have hab : 1 ≤ a ∧ 1 ≤ b := by
        unfold inW at a1
        simp only [List.all_cons, List.all_nil, Bool.and_true, Bool.and_eq_true, decide_eq_true_eq] at a1
        exact ⟨a1.1.1, a1.2.1⟩
      rw [hsum] at a3
      have hw : weedB [a, b] [a + b] = true := by
        unfold weedB
        rw [hp, one_parts (by omega) a3, hsum]
        simp
      unfold q2B at h
      rw [hp, sIndex hw (by omega)] at h
      simp only [Bool.not_true, Bool.false_or] at h
      split at h
      · rename_i u v e1 e2
        cases e1
        have e3 : idxOf [a, b] [a + b] = isub .i64 v 1 := by simpa using h
        refine ⟨v, by rw [gcd_eq]; exact e2, ?_, ?_, ?_⟩
        · rw [if_pos ⟨rfl, by rw [hsum]; omega⟩, hsum, e3]
        · simp only [bnot, Bool.not_true, cond_false]
          rw [e2, bd_of]
        · rw [iadd_id (by omega) (by omega), index_eq.1, if_pos hw, e3]
      · cases h
  · exfalso
    obtain ⟨a1, a2, a3⟩ := partsB_in h1
    have := len_sum a1
    simp only [List.length_cons, List.length_nil] at this
    omega
theorem thr_all {a b c : Int} (h : q3B a b c = true) : (F_impl_IndexOfThree 2000000 a b c = some (0, false) ∧ F_spec_IndexOfThree 2000000 a b c = some (0, false)) ∨
    ∃ g, F_impl_IndexOfThree 2000000 a b c = some (isub .i64 g 1, true) ∧ F_spec_IndexOfThree 2000000 a b c = some (isub .i64 g 1, true) ∧ F_impl_IndexOf 2000000 [a, b, c] [iadd .i64 (iadd .i64 a b) c] = some (isub .i64 g 1, true) := by
  have hsum : [a, b, c].sum = a + b + c := by simp [Int.add_assoc]
  rcases for_eq (ps := [a, b, c]) with hf | ⟨h1, h2⟩
  · unfold F_impl_IndexOfThree F_spec_IndexOfThree
    rw [hf, sParts_eq (by omega), bd_of, bd_of]
    cases hp : partsB [a, b, c]
    · exact .inl ⟨rfl, rfl⟩
    · right
      obtain ⟨a1, a2, a3⟩ := partsB_in hp
      have hab : 1 ≤ a ∧ 1 ≤ b ∧ 1 ≤ c := by
        unfold inW at a1
        simp only [List.all_cons, List.all_nil, Bool.and_true, Bool.and_eq_true, decide_eq_true_eq] at a1
        exact ⟨a1.1.1, a1.2.1.1, a1.2.2.1⟩
      rw [hsum] at a3
      have hw : weedB [a, b, c] [a + b + c] = true := by
        unfold weedB
        rw [hp, one_parts (by omega) a3, hsum]
        simp
      unfold q3B at h
      rw [hp, sIndex hw (by omega)] at h
      simp only [Bool.not_true, Bool.false_or] at h
      split at h
      · rename_i u v e1 e2
        cases e1
        have e3 : idxOf [a, b, c] [a + b + c] = isub .i64 v 1 := by simpa using h
        refine ⟨v, ?_, ?_, ?_⟩
        · rw [if_pos ⟨rfl, by rw [hsum]; omega⟩, hsum, e3]
        · simp only [bnot, Bool.not_true, cond_false]
          rw [iadd_id (a := a) (by omega) (by omega), iadd_id (a := b) (by omega) (by omega), e2, bd_of]
        · rw [iadd_id (a := a) (by omega) (by omega), iadd_id (by omega) (by omega), index_eq.1, if_pos hw, e3]
      · cases h
  · exfalso
    obtain ⟨a1, a2, a3⟩ := partsB_in h1
    have := len_sum a1
    simp only [List.length_cons, List.length_nil] at this
    omega
section
variable {x : List Int}
theorem weeds_L {high : Int} (w : Bytes x) : ∀ (d m : Nat) (at' s y : Int) (l : List Int), 0 ≤ y → y ≤ (d : Int) → d < m → d ≤ 60 → l.length + d ≤ 100 → 0 ≤ at' → at' + 2 * d ≤ 1000 →
    ∃ a t r z, F_spec_l1Cur_weedParts_L1 2000000 x high m at' s l y = some (a, t, r, z) ∧ at' ≤ a ∧ a ≤ at' + 2 * d ∧ r.length ≤ l.length + d := by
  intro d
  induction d with
  | zero =>
    intro m at' s y l h0 h1 hm hd hl ha hb
    cases m with
    | zero => omega
    | succ m =>
      simp only [F_spec_l1Cur_weedParts_L1]
      rw [ilt_f (by omega), cond_false]
      exact ⟨_, _, _, _, rfl, by omega, by omega, by omega⟩
  | succ d ih =>
    intro m at' s y l h0 h1 hm hd hl ha hb
    cases m with
    | zero => omega
    | succ m =>
      simp only [F_spec_l1Cur_weedParts_L1]
      by_cases hy : 0 < y
      · rw [ilt_t hy, cond_true]
        obtain ⟨v, e, hv⟩ : ∃ v, F_spec_l1Least 2000000 y high = some v ∧ v ≤ y := by
          unfold F_spec_l1Least
          by_cases c : y < high
          · rw [ilt_t c]
            exact ⟨_, rfl, by omega⟩
          · rw [ilt_f c]
            exact ⟨_, rfl, by omega⟩
        rw [e, bd_of]
        obtain ⟨b, a, t, e2, g0, g1, b0, b1⟩ := pick_ok (fu := 2000000) (seed := s) (n := v) w ha (by omega)
        rw [e2, bd_of]
        simp only
        rw [gd_t (by simp only [List.length_singleton]; omega), iadd_id (by omega) (by omega), isub_id (by omega) (by omega)]
        obtain ⟨a', t', r, z, e3, k0, k1, k2⟩ := ih m a t (y - (1 + b)) (lapp l [1 + b]) (by omega) (by omega) (by omega) (by omega) (by simp [lapp]; omega) (by omega) (by omega)
        rw [e3]
        refine ⟨_, _, _, _, rfl, by omega, by omega, ?_⟩
        simp only [lapp, List.length_append, List.length_singleton] at k2
        omega
      · rw [ilt_f hy, cond_false]
        exact ⟨_, _, _, _, rfl, by omega, by omega, by omega⟩
theorem weeds_ok {n at' s : Int} (w : Bytes x) (hn0 : 0 ≤ n) (hn : n ≤ 30) (h0 : 0 ≤ at') (h1 : at' ≤ 800) : ∃ r a t, F_spec_l1Cur_weedParts 2000000 x at' s n = some (r, a, t) ∧ at' ≤ a ∧ a ≤ at' + 62 ∧ r.length ≤ 30 := by
  unfold F_spec_l1Cur_weedParts
  obtain ⟨b, a, t, e, g0, g1, _⟩ := among_ok (fu := 2000000) (seed := s) (l := [2, 5, 20]) w h0 (by omega) (by simp)
  rw [e, bd_of]
  simp only
  obtain ⟨a', t', r, z, e2, k0, k1, k2⟩ := weeds_L (x := x) (high := b) w 30 2000000 a t n [] hn0 (by omega) (by omega) (by omega) (by simp) (by omega) (by omega)
  rw [e2, bd_of]
  exact ⟨_, _, _, rfl, by omega, by omega, by simpa using k2⟩
theorem weed_ok {n at' s : Int} (w : Bytes x) (hn0 : 0 ≤ n) (hn : n ≤ 20) (h0 : 0 ≤ at') (h1 : at' ≤ 300) : ∃ p q a t, F_spec_l1Cur_seaweed 2000000 x at' s n = some ((p, q), a, t) ∧ at' ≤ a ∧ a ≤ at' + 200 ∧ p.length ≤ 100 ∧ q.length ≤ 100 := by
  unfold F_spec_l1Cur_seaweed
  rw [iadd_id (by omega) (by omega)]
  obtain ⟨b, a1, s1, e1, c0, c1, b0, b1⟩ := pick_ok (fu := 2000000) (seed := s) (n := n + 1) w h0 (by omega)
  rw [e1, bd_of]
  simp only
  obtain ⟨p, a2, s2, e2, d0, d1, lp⟩ := weeds_ok (x := x) (n := b) (at' := a1) (s := s1) w b0 (by omega) (by omega) (by omega)
  rw [e2, bd_of]
  simp only
  obtain ⟨q, a3, s3, e3, f0, f1, lq⟩ := weeds_ok (x := x) (n := b) (at' := a2) (s := s2) w b0 (by omega) (by omega) (by omega)
  rw [e3, bd_of]
  simp only
  obtain ⟨v, a4, s4, e4, g0, g1, v0, v1⟩ := pick_ok (fu := 2000000) (seed := s3) (at' := a3) (n := 16) w (by omega) (by omega)
  rw [e4, bd_of]
  simp only
  by_cases h1 : v = 0
  · rw [ieq_t h1, cond_true]
    obtain ⟨z, a5, s5, e5, k0, k1, _⟩ := among_ok (fu := 2000000) (seed := s4) (at' := a4) (l := [0, 1, (-1), 4611686018427387904]) w (by omega) (by omega) (by simp)
    rw [e5, bd_of, gd_t (by simp only [List.length_singleton]; omega)]
    exact ⟨_, _, _, _, rfl, by simp only; omega, by simp only; omega, by simp [lapp]; omega, by omega⟩
  rw [ieq_f h1, cond_false]
  by_cases h2 : v = 1
  · rw [ieq_t h2, cond_true]
    by_cases h3 : 0 < q.length
    · rw [ilt_t (by simp only [llen]; omega), cond_true]
      obtain ⟨z, a5, s5, e5, k0, k1, z0, z1⟩ := pick_ok (fu := 2000000) (seed := s4) (at' := a4) (n := llen q) w (by omega) (by omega)
      rw [e5, bd_of]
      simp only
      obtain ⟨u, a6, s6, e6, m0, m1, _⟩ := among_ok (fu := 2000000) (seed := s5) (at' := a5) (l := [0, 1, 20, 21, (-1)]) w (by omega) (by omega) (by simp)
      have hz : inL q z := ⟨z0, by simp only [llen] at z1; omega⟩
      rw [e6, bd_of, gd_t hz]
      exact ⟨_, _, _, _, rfl, by simp only; omega, by simp only; omega, by omega, by simp [lset]; omega⟩
    · rw [ilt_f (by simp only [llen]; omega), cond_false]
      exact ⟨_, _, _, _, rfl, by omega, by omega, by omega, by omega⟩
  rw [ieq_f h2, cond_false]
  by_cases h3 : v = 2
  · rw [ieq_t h3, cond_true]
    obtain ⟨r, a5, s5, e5, k0, k1, lr⟩ := weeds_ok (x := x) (n := 20) (at' := a4) (s := s4) w (by omega) (by omega) (by omega) (by omega)
    rw [e5, bd_of]
    exact ⟨_, _, _, _, rfl, by simp only; omega, by simp only; omega, by simp, by simp only; omega⟩
  · rw [ieq_f h3, cond_false]
    exact ⟨_, _, _, _, rfl, by omega, by omega, by omega, by omega⟩
theorem JJ_ok (w : Bytes x) : JJ x = some true := by
  have n1 : bnot true = false := rfl
  obtain ⟨p, q, a, s, e1, a0, a1, lp, lq⟩ := weed_ok (x := x) (n := 10) (at' := 0) (s := 0) w (by omega) (by omega) (by omega) (by omega)
  obtain ⟨p', q', a', s', e2, a0', a1', lp', lq'⟩ := weed_ok (x := x) (n := 11) (at' := a) (s := s) w (by omega) (by omega) (by omega) (by omega)
  have e : F_spec_DrawJoinSeaweeds 2000000 x = some ((p, q), (p', q')) := by
    unfold F_spec_DrawJoinSeaweeds
    rw [e1, bd_of]
    simp only
    rw [e2, bd_of]
  obtain ⟨S, j1, j2, j3, j4, j5⟩ := join_eq (p := p) (q := q) (p' := p') (q' := q') (by omega) (by omega) (by omega) (by omega)
  obtain ⟨⟨u, v⟩, t⟩ := S
  simp only at j3 j4 j5
  unfold JJ
  rw [e, bd_of]
  simp only
  rw [j1, j2, bd_of, bd_of]
  simp only [bneS, cond_false]
  rw [yWeed_eq j3 j4 (by omega)]
  simp only [bd_of, n1, cond_false]
  cases t
  · rfl
  · obtain ⟨k1, k2, k3, k4⟩ := j5 rfl
    simp only [Prod.mk.injEq] at k4
    obtain ⟨rfl, rfl⟩ := k4
    have hw : weedB (p ++ p') (q ++ q') = true := by
      rw [weed_app k1 k2]
      exact decide_eq_true k3
    simp only [cond_true, index_eq.1, if_pos k1, if_pos k2, if_pos hw, bd_of]
    rw [join_idx k1 k2 k3]
theorem TT_ok (w : Bytes x) : TT x = some true := by
  have n1 : bnot true = false := rfl
  obtain ⟨a, a1, s1, e1, c0, c1, ha⟩ := among_ok (fu := 2000000) (x := x) (at' := 0) (seed := 0) (l := [1, 2, 3, 4, 5, 6, 0]) w (by omega) (by omega) (by simp)
  obtain ⟨b, a2, s2, e2, d0, d1, hb⟩ := among_ok (fu := 2000000) (x := x) (at' := a1) (seed := s1) (l := [1, 2, 3, 4, 6, 8, 4611686018427387904]) w (by omega) (by omega) (by simp)
  obtain ⟨c, a3, s3, e3, f0, f1, hc⟩ := among_ok (fu := 2000000) (x := x) (at' := a2) (seed := s2) (l := [1, 2, 3, 5, 7, 8, (-1)]) w (by omega) (by omega) (by simp)
  have e : F_spec_DrawIndexOfThree 2000000 x = some (a, b, c) := by
    unfold F_spec_DrawIndexOfThree
    rw [e1, bd_of]
    simp only
    rw [e2, bd_of]
    simp only
    rw [e3, bd_of]
  have hJ : JJ x = some true := JJ_ok w
  unfold TT
  rw [e, bd_of]
  simp only
  rcases thr_all (q3_all ha hb hc) with ⟨k1, k2⟩ | ⟨g, k1, k2, k3⟩
  · rw [k1, k2]
    simp only [bd_of, bneS, cond_false, ine_f]
    exact hJ
  · rw [k1, k2]
    simp only [bd_of, bneS, cond_false, ine_f, cond_true]
    rw [k3]
    simp only [bd_of, n1, cond_false, ine_f]
    exact hJ
theorem WW_ok (w : Bytes x) : WW x = some true := by
  have n1 : bnot true = false := rfl
  obtain ⟨a, a1, s1, e1, c0, c1, ha⟩ := among_ok (fu := 2000000) (x := x) (at' := 0) (seed := 0) (l := [1, 2, 3, 4, 6, 8, 9, 10, 12, 0, 4611686018427387904]) w (by omega) (by omega) (by simp)
  obtain ⟨b, a2, s2, e2, d0, d1, hb⟩ := among_ok (fu := 2000000) (x := x) (at' := a1) (seed := s1) (l := [1, 2, 3, 4, 6, 8, 10, 11, (-1), 4611686018427387904]) w (by omega) (by omega) (by simp)
  have e : F_spec_DrawIndexOfTwo 2000000 x = some (a, b) := by
    unfold F_spec_DrawIndexOfTwo
    rw [e1, bd_of]
    simp only
    rw [e2, bd_of]
  have hT : TT x = some true := TT_ok w
  unfold WW
  rw [e, bd_of]
  simp only
  rcases two_all (q2_all ha hb) with ⟨k1, k2⟩ | ⟨g, k0, k1, k2, k3⟩
  · rw [k1, k2]
    simp only [bd_of, bneS, cond_false, ine_f]
    exact hT
  · rw [k1, k2]
    simp only [bd_of, bneS, cond_false, ine_f, cond_true]
    rw [k3, k0]
    simp only [bd_of, n1, cond_false, ine_f]
    exact hT
end
theorem law_FnSeaweedsIndexed {code more : List Int} (lc : code.length ≤ maxLen) (wc : ∀ n ∈ code, (Lit.int .u8 n).wf = true) (lm : more.length ≤ maxLen) (wm : ∀ n ∈ more, (Lit.int .u8 n).wf = true) : F_laws_FnSeaweedsIndexed 2000000 code more = some true := by
  have n1 : bnot true = false := rfl
  have hW : WW more = some true := WW_ok wm
  unfold F_laws_FnSeaweedsIndexed
  obtain ⟨b, hb⟩ : ∃ b, F_laws_big 2000000 code more = some b := by
    unfold F_laws_big
    cases ilt 1048576 (llen code)
    · exact ⟨_, rfl⟩
    · exact ⟨_, rfl⟩
  rw [hb, bd_of]
  cases b
  case true => rfl
  obtain ⟨p, q, a, s, e1, a0, a1, lp, lq⟩ := weed_ok (x := code) (n := 20) (at' := 0) (s := 0) wc (by omega) (by omega) (by omega) (by omega)
  have e : F_spec_DrawIndexOf 2000000 code = some (p, q) := by
    unfold F_spec_DrawIndexOf F_spec_DrawIsSeaweed
    rw [e1, bd_of]
    rfl
  rw [cond_false, e, bd_of]
  simp only
  rw [index_eq.1, index_eq.2, flip_eq.1, flip_eq.2, mirror_eq.1, mirror_eq.2]
  cases h : weedB p q
  · rw [if_neg (by simp), if_neg (by simp), if_neg (by simp)]
    simp only [bd_of, bneS, cond_false, ine_f]
    rw [yWeed_eq (by simp) (by simp) (by omega)]
    simp only [bd_of, n1, cond_false, bneS]
    exact hW
  · rw [if_pos rfl, if_pos rfl, if_pos rfl]
    simp only [bd_of, bneS, cond_false, ine_f]
    rw [yWeed_eq (by omega) (by omega) (by omega), yWeed_eq (by simp; omega) (by simp; omega) (by omega)]
    simp only [bd_of, n1, cond_false, bneS, cond_true]
    rw [both_eq h, index_eq.1, index_eq.1, if_pos (weed_flip h), if_pos (weed_rev h), flip_idx h, rev_idx h]
    have ei : ine (idxOf p q) (isub .i64 (iadd .i64 (imul .i64 2 (llen (grpsOf p q false))) (llen (grpsOf p q true))) 1) = false := ine_f rfl
    simp only [bd_of, n1, cond_false, ei, ine_f]
    exact hW
end Go.Proofs.Ytigpmjebldgekaa.AL
