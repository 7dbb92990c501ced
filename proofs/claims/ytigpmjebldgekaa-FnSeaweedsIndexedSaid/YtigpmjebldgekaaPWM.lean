/- Classes of joined points under maps: how many there are. No condition. -/
import Derived.Test.YtigpmjebldgekaaPSL4
namespace Go.Proofs.Ytigpmjebldgekaa.Grp
open Go
set_option linter.unusedVariables false
set_option linter.unusedSimpArgs false
open Go.Proofs.Ytigpmjebldgekaa.AL (told_old told_yes told_no)
theorem nodup_le : ∀ {l m : List Nat}, l.Nodup → (∀ x ∈ l, x ∈ m) → l.length ≤ m.length
  | [], m, _, _ => Nat.zero_le _
  | a :: l, m, h, hs => by
    rw [List.nodup_cons] at h
    have ha := hs a (by simp)
    have := nodup_le (l := l) (m := m.erase a) h.2 fun x hx => by
      have : x ≠ a := by
        rintro rfl
        exact h.1 hx
      exact (List.mem_erase_of_ne this).2 (hs x (by simp [hx]))
    rw [List.length_erase_of_mem ha] at this
    have := List.length_pos_of_mem ha
    simp only [List.length_cons]
    omega
def Lp (t b : Nat → Nat) (p : Bool) (i : Nat) : Prop := ¬ Old t b i i ∧ ((∃ j, Reach t b i j ∧ tip t b j = true) ↔ p = true)
open Classical in
noncomputable def cnt (t b : Nat → Nat) (p : Bool) (m : Nat) : Nat := ((List.range m).filter fun i => decide (Lp t b p i)).length
section
variable {n n' : Nat} {t b t' b' : Nat → Nat} {p : Bool}
theorem any_tip (ht : Inv n t) (hb : Inv n b) {i : Nat} (hi : i < n) : (cls n t b i).any (tip t b) = p ↔ ((∃ j, Reach t b i j ∧ tip t b j = true) ↔ p = true) := by
  have : (cls n t b i).any (tip t b) = true ↔ ∃ j, Reach t b i j ∧ tip t b j = true := by
    rw [List.any_eq_true]
    constructor
    · rintro ⟨j, hj, h⟩
      exact ⟨j, (Grp.mem_cls ht hb hi).1 hj, h⟩
    · rintro ⟨j, hj, h⟩
      exact ⟨j, (Grp.mem_cls ht hb hi).2 hj, h⟩
  rw [← this]
  cases p <;> cases (cls n t b i).any (tip t b) <;> simp
open Classical in
theorem told_cnt (ht : Inv n t) (hb : Inv n b) : ∀ m, m ≤ n → (told n t b p m).length = cnt t b p m
  | 0, _ => rfl
  | m + 1, hm => by
    have ih := told_cnt ht hb m (by omega)
    have e : cnt t b p (m + 1) = cnt t b p m + if Lp t b p m then 1 else 0 := by
      unfold cnt
      rw [List.range_succ, List.filter_append, List.length_append]
      by_cases h : Lp t b p m <;> simp [h]
    rw [e]
    by_cases ho : Old t b m m
    · rw [told_old ho, ih, if_neg (fun h => h.1 ho), Nat.add_zero]
    · by_cases hc : (cls n t b m).any (tip t b) = p
      · rw [told_yes ho hc, List.length_append, ih, if_pos ⟨ho, (any_tip ht hb (by omega)).1 hc⟩]
        rfl
      · rw [told_no ho hc, ih, if_neg (fun h => hc ((any_tip ht hb (by omega)).2 h.2)), Nat.add_zero]
structure Maps (n : Nat) (t b : Nat → Nat) (n' : Nat) (t' b' : Nat → Nat) (s : Nat → Nat) : Prop where
  lt : ∀ i, i < n → s i < n'
  inj : ∀ i j, i < n → j < n → s i = s j → i = j
  top : ∀ i, i < n → s (t i) = t' (s i)
  bot : ∀ i, i < n → s (b i) = b' (s i)
theorem Maps.reach {s : Nat → Nat} (M : Maps n t b n' t' b' s) (ht : Inv n t) (hb : Inv n b) {i j : Nat} (hi : i < n) (h : Reach t b i j) : Reach t' b' (s i) (s j) := by
  induction h with
  | refl => exact .refl
  | @top k hk ih =>
    rw [M.top k (hk.lt ht hb hi)]
    exact ih.top
  | @bot k hk ih =>
    rw [M.bot k (hk.lt ht hb hi)]
    exact ih.bot
theorem Maps.back {s : Nat → Nat} (M : Maps n t b n' t' b' s) (ht : Inv n t) (hb : Inv n b) {i k : Nat} (hi : i < n) (h : Reach t' b' (s i) k) : ∃ j, j < n ∧ k = s j ∧ Reach t b i j := by
  induction h with
  | refl => exact ⟨i, hi, rfl, .refl⟩
  | @top k _ ih =>
    obtain ⟨j, hj, rfl, r⟩ := ih
    exact ⟨t j, ht.lt j hj, (M.top j hj).symm, r.top⟩
  | @bot k _ ih =>
    obtain ⟨j, hj, rfl, r⟩ := ih
    exact ⟨b j, hb.lt j hj, (M.bot j hj).symm, r.bot⟩
theorem Maps.tip {s : Nat → Nat} (M : Maps n t b n' t' b' s) (ht : Inv n t) (hb : Inv n b) {j : Nat} (hj : j < n) : tip t' b' (s j) = tip t b j := by
  have e1 : (t' (s j) == s j) = (t j == j) := by
    rw [← M.top j hj, Bool.eq_iff_iff, beq_iff_eq, beq_iff_eq]
    exact ⟨fun h => M.inj _ _ (ht.lt j hj) hj h, fun h => by rw [h]⟩
  have e2 : (b' (s j) == s j) = (b j == j) := by
    rw [← M.bot j hj, Bool.eq_iff_iff, beq_iff_eq, beq_iff_eq]
    exact ⟨fun h => M.inj _ _ (hb.lt j hj) hj h, fun h => by rw [h]⟩
  unfold Grp.tip
  rw [e1, e2]
theorem Maps.ends {s : Nat → Nat} (M : Maps n t b n' t' b' s) (ht : Inv n t) (hb : Inv n b) {i : Nat} (hi : i < n) : (∃ k, Reach t' b' (s i) k ∧ Grp.tip t' b' k = true) ↔ ∃ j, Reach t b i j ∧ Grp.tip t b j = true := by
  constructor
  · rintro ⟨k, r, h⟩
    obtain ⟨j, hj, rfl, r'⟩ := M.back ht hb hi r
    exact ⟨j, r', by rw [← M.tip ht hb hj]; exact h⟩
  · rintro ⟨j, r, h⟩
    exact ⟨s j, M.reach ht hb hi r, by rw [M.tip ht hb (r.lt ht hb hi)]; exact h⟩
theorem least_ex (ht : Inv n t) (hb : Inv n b) : ∀ i, i < n → ∃ k, Reach t b i k ∧ ¬ Old t b k k ∧ k < n := by
  intro i
  induction i using Nat.strongRecOn with
  | ind i ih =>
    intro hi
    by_cases ho : Old t b i i
    · obtain ⟨i', h1, r⟩ := ho
      obtain ⟨k, k1, k2, k3⟩ := ih i' h1 (by omega)
      exact ⟨k, (r.symm ht hb (by omega)).trans k1, k2, k3⟩
    · exact ⟨i, .refl, ho, hi⟩
theorem ends_same (ht : Inv n t) (hb : Inv n b) {i k : Nat} (hi : i < n) (r : Reach t b i k) : (∃ j, Reach t b k j ∧ Grp.tip t b j = true) ↔ ∃ j, Reach t b i j ∧ Grp.tip t b j = true := by
  constructor
  · rintro ⟨j, r', h⟩
    exact ⟨j, r.trans r', h⟩
  · rintro ⟨j, r', h⟩
    exact ⟨j, (r.symm ht hb hi).trans r', h⟩
theorem Maps.cnt_le {s : Nat → Nat} (M : Maps n t b n' t' b' s) (ht : Inv n t) (hb : Inv n b) (ht' : Inv n' t') (hb' : Inv n' b') : cnt t b p n ≤ cnt t' b' p n' := by
  have hex : ∀ i, ∃ k, i < n → Reach t' b' (s i) k ∧ ¬ Old t' b' k k ∧ k < n' := fun i => by
    by_cases hi : i < n
    · obtain ⟨k, h⟩ := least_ex ht' hb' (s i) (M.lt i hi)
      exact ⟨k, fun _ => h⟩
    · exact ⟨0, fun h => absurd h hi⟩
  let f : Nat → Nat := fun i => Classical.choose (hex i)
  have hf : ∀ i, i < n → Reach t' b' (s i) (f i) ∧ ¬ Old t' b' (f i) (f i) ∧ f i < n' := fun i => Classical.choose_spec (hex i)
  have key : ∀ i j, i < n → j < n → ¬ Old t b i i → ¬ Old t b j j → f i = f j → i = j := by
    intro i j hi hj oi oj e
    have r1 := (hf i hi).1
    have r2 := (hf j hj).1
    rw [← e] at r2
    have r3 := r1.trans (r2.symm ht' hb' (M.lt j hj))
    obtain ⟨k, hk, e2, r4⟩ := M.back ht hb hi r3
    have := M.inj _ _ hj hk e2
    subst this
    rcases Nat.lt_trichotomy i j with h | h | h
    · exact absurd ⟨i, h, r4⟩ oj
    · exact h
    · exact absurd ⟨j, h, r4.symm ht hb hi⟩ oi
  unfold cnt
  have hn : (((List.range n).filter fun i => @decide (Lp t b p i) (Classical.propDecidable _)).map f).Nodup := by
    unfold List.Nodup
    rw [List.pairwise_map]
    refine List.Pairwise.imp_of_mem ?_ (List.Pairwise.filter _ List.nodup_range)
    intro i j hi hj hne e
    simp only [List.mem_filter, List.mem_range, decide_eq_true_eq] at hi hj
    exact hne (key i j hi.1 hj.1 hi.2.1 hj.2.1 e)
  have := nodup_le hn (m := (List.range n').filter fun i => @decide (Lp t' b' p i) (Classical.propDecidable _)) fun x hx => by
    obtain ⟨i, hi, rfl⟩ := List.mem_map.1 hx
    simp only [List.mem_filter, List.mem_range, decide_eq_true_eq] at hi ⊢
    obtain ⟨h1, h2, h3⟩ := hf i hi.1
    refine ⟨h3, h2, ?_⟩
    rw [ends_same ht' hb' (M.lt i hi.1) h1, M.ends ht hb hi.1]
    exact hi.2.2
  simpa using this
theorem reach_swap {i j : Nat} (h : Reach t b i j) : Reach b t i j := by
  induction h with
  | refl => exact .refl
  | top _ ih => exact ih.bot
  | bot _ ih => exact ih.top
theorem old_swap {i j : Nat} (h : Old t b i j) : Old b t i j := by
  obtain ⟨k, h1, r⟩ := h
  exact ⟨k, h1, reach_swap r⟩
theorem tip_swap {j : Nat} : Grp.tip t b j = Grp.tip b t j := by
  unfold Grp.tip
  exact Bool.or_comm _ _
theorem Lp_swap {i : Nat} (h : Lp t b p i) : Lp b t p i := by
  refine ⟨fun o => h.1 (old_swap o), ?_⟩
  rw [← h.2]
  constructor
  · rintro ⟨j, r, e⟩
    exact ⟨j, reach_swap r, by rw [tip_swap]; exact e⟩
  · rintro ⟨j, r, e⟩
    exact ⟨j, reach_swap r, by rw [tip_swap]; exact e⟩
theorem cnt_swap {m : Nat} : cnt t b p m = cnt b t p m := by
  unfold cnt
  congr 1
  refine List.filter_congr fun i _ => ?_
  rw [decide_eq_decide]
  exact ⟨Lp_swap, Lp_swap⟩
theorem cnt_join {t1 b1 t2 b2 : Nat → Nat} {n1 n2 : Nat} (h1t : Inv n1 t1) (h1b : Inv n1 b1) (h2t : Inv n2 t2) (h2b : Inv n2 b2) (ht : Inv (n1 + n2) t) (hb : Inv (n1 + n2) b) (M1 : Maps n1 t1 b1 (n1 + n2) t b fun i => i) (M2 : Maps n2 t2 b2 (n1 + n2) t b fun i => n1 + i) :
    cnt t b p (n1 + n2) = cnt t1 b1 p n1 + cnt t2 b2 p n2 := by
  have L1 : ∀ i, i < n1 → (Lp t b p i ↔ Lp t1 b1 p i) := fun i hi => by
    unfold Lp
    rw [M1.ends h1t h1b hi]
    have : Old t b i i ↔ Old t1 b1 i i := by
      constructor
      · rintro ⟨k, hk, r⟩
        obtain ⟨j, hj, e, r'⟩ := M1.back h1t h1b (i := k) (by omega) r
        have e : i = j := e
        subst e
        exact ⟨k, hk, r'⟩
      · rintro ⟨k, hk, r⟩
        exact ⟨k, hk, M1.reach h1t h1b (by omega) r⟩
    rw [this]
  have L2 : ∀ i, i < n2 → (Lp t b p (n1 + i) ↔ Lp t2 b2 p i) := fun i hi => by
    unfold Lp
    rw [M2.ends h2t h2b hi]
    have : Old t b (n1 + i) (n1 + i) ↔ Old t2 b2 i i := by
      constructor
      · rintro ⟨k, hk, r⟩
        by_cases hk1 : k < n1
        · obtain ⟨j, hj, e, r'⟩ := M1.back h1t h1b (i := k) hk1 r
          have e : n1 + i = j := e
          omega
        · have e : k = n1 + (k - n1) := by omega
          rw [e] at r
          obtain ⟨j, hj, e2, r'⟩ := M2.back h2t h2b (i := k - n1) (by omega) r
          have : i = j := by
            have e2 : n1 + i = n1 + j := e2
            omega
          subst this
          exact ⟨k - n1, by omega, r'⟩
      · rintro ⟨k, hk, r⟩
        exact ⟨n1 + k, by omega, M2.reach h2t h2b (by omega) r⟩
    rw [this]
  unfold cnt
  rw [List.range_add, List.filter_append, List.length_append]
  congr 1
  · congr 1
    refine List.filter_congr fun i hi => ?_
    rw [decide_eq_decide]
    exact L1 i (List.mem_range.1 hi)
  · rw [List.filter_map, List.length_map]
    congr 1
    refine List.filter_congr fun i hi => ?_
    simp only [Function.comp_apply]
    rw [decide_eq_decide]
    exact L2 i (List.mem_range.1 hi)
end
theorem arcL_app : ∀ (f : Nat) (ps qs : List Nat), arcL f (ps ++ qs) = arcL f ps ++ arcL (f + ps.sum) qs
  | f, [], qs => by simp [arcL]
  | f, n :: ps, qs => by
    rw [List.cons_append, arcL, arcL, arcL_app (f + n) ps qs, List.append_assoc, List.sum_cons, Nat.add_assoc]
theorem arcL_shift : ∀ (f : Nat) (ps : List Nat), arcL f ps = (arcL 0 ps).map (f + ·)
  | f, [] => rfl
  | f, n :: ps => by
    rw [arcL, arcL, arcL_shift (f + n) ps, arcL_shift (0 + n) ps, List.map_append, List.map_map, List.map_map]
    congr 1
    · refine List.map_congr_left fun i hi => ?_
      have := List.mem_range.1 hi
      simp only [Function.comp_apply]
      omega
    · refine List.map_congr_left fun i hi => ?_
      simp only [Function.comp_apply]
      omega
theorem arcF_left {ps qs : List Nat} {j : Nat} (h : j < ps.sum) : arcF (ps ++ qs) j = arcF ps j := by
  unfold arcF
  rw [arcL_app, List.getD_eq_getElem?_getD, List.getD_eq_getElem?_getD, List.getElem?_append_left (by rw [Grp.arcL_len]; exact h)]
theorem arcF_right {ps qs : List Nat} {j : Nat} (h : j < qs.sum) : arcF (ps ++ qs) (ps.sum + j) = ps.sum + arcF qs j := by
  unfold arcF
  rw [arcL_app, List.getD_eq_getElem?_getD, List.getD_eq_getElem?_getD, List.getElem?_append_right (by rw [Grp.arcL_len]; omega), Grp.arcL_len, arcL_shift, List.getElem?_map]
  have hl : j < (arcL 0 qs).length := by rw [Grp.arcL_len]; exact h
  simp [List.getElem?_eq_getElem hl]
theorem arcF_one {n j : Nat} (h : j < n) : arcF [n] j = n - 1 - j := by
  unfold arcF
  rw [List.getD_eq_getElem?_getD]
  simp [arcL, h]
theorem arcF_rev : ∀ (ps : List Nat) (j : Nat), j < ps.sum → arcF ps.reverse j = ps.sum - 1 - arcF ps (ps.sum - 1 - j)
  | [], j, h => by simp at h
  | n :: ps, j, h => by
    have hs : ps.reverse.sum = ps.sum := List.sum_reverse _
    have e0 : n :: ps = [n] ++ ps := rfl
    have e1 : [n].sum = n := by simp
    rw [List.sum_cons] at h
    rw [List.reverse_cons, List.sum_cons]
    by_cases hj : j < ps.sum
    · rw [arcF_left (by omega), arcF_rev ps j hj]
      have e : n + ps.sum - 1 - j = [n].sum + (ps.sum - 1 - j) := by rw [e1]; omega
      have hlt := (Grp.arcF_inv ps).lt (ps.sum - 1 - j) (by omega)
      rw [e0, e, arcF_right (by omega), e1]
      omega
    · have e : j = ps.reverse.sum + (j - ps.sum) := by omega
      have h2 : j - ps.sum < n := by omega
      rw [e, arcF_right (by simpa using h2), arcF_one h2, ← e]
      rw [e0, arcF_left (by rw [e1]; omega), arcF_one (by omega)]
      omega
section
variable {ps qs ps' qs' : List Nat} {p : Bool}
theorem cnt_mirror (h : qs.sum = ps.sum) : cnt (arcF ps.reverse) (arcF qs.reverse) p ps.sum = cnt (arcF ps) (arcF qs) p ps.sum := by
  have hs : ps.reverse.sum = ps.sum := List.sum_reverse _
  have hs' : qs.reverse.sum = ps.sum := by rw [← h]; exact List.sum_reverse _
  have i1 := Grp.arcF_inv ps
  have i2 := Grp.arcF_inv qs
  have i3 := Grp.arcF_inv ps.reverse
  have i4 := Grp.arcF_inv qs.reverse
  rw [h] at i2
  rw [hs] at i3
  rw [hs'] at i4
  have r1 := arcF_rev ps
  have r2 := arcF_rev qs
  rw [h] at r2
  have A : Maps ps.sum (arcF ps) (arcF qs) ps.sum (arcF ps.reverse) (arcF qs.reverse) fun i => ps.sum - 1 - i := by
    refine ⟨fun i hi => ?_, fun i j hi hj e => ?_, fun i hi => ?_, fun i hi => ?_⟩
    · show ps.sum - 1 - i < ps.sum
      omega
    · have e : ps.sum - 1 - i = ps.sum - 1 - j := e
      omega
    · show ps.sum - 1 - arcF ps i = arcF ps.reverse (ps.sum - 1 - i)
      rw [r1 _ (by omega), show ps.sum - 1 - (ps.sum - 1 - i) = i by omega]
    · show ps.sum - 1 - arcF qs i = arcF qs.reverse (ps.sum - 1 - i)
      rw [r2 _ (by omega), show ps.sum - 1 - (ps.sum - 1 - i) = i by omega]
  have B : Maps ps.sum (arcF ps.reverse) (arcF qs.reverse) ps.sum (arcF ps) (arcF qs) fun i => ps.sum - 1 - i := by
    refine ⟨fun i hi => ?_, fun i j hi hj e => ?_, fun i hi => ?_, fun i hi => ?_⟩
    · show ps.sum - 1 - i < ps.sum
      omega
    · have e : ps.sum - 1 - i = ps.sum - 1 - j := e
      omega
    · have := i1.lt (ps.sum - 1 - i) (by omega)
      show ps.sum - 1 - arcF ps.reverse i = arcF ps (ps.sum - 1 - i)
      rw [r1 _ hi]
      omega
    · have := i2.lt (ps.sum - 1 - i) (by omega)
      show ps.sum - 1 - arcF qs.reverse i = arcF qs (ps.sum - 1 - i)
      rw [r2 _ hi]
      omega
  exact Nat.le_antisymm (B.cnt_le i3 i4 i1 i2) (A.cnt_le i1 i2 i3 i4)
theorem cnt_two (h : qs.sum = ps.sum) (h' : qs'.sum = ps'.sum) : cnt (arcF (ps ++ ps')) (arcF (qs ++ qs')) p (ps.sum + ps'.sum) = cnt (arcF ps) (arcF qs) p ps.sum + cnt (arcF ps') (arcF qs') p ps'.sum := by
  have i1 := Grp.arcF_inv ps
  have i2 := Grp.arcF_inv qs
  have i3 := Grp.arcF_inv ps'
  have i4 := Grp.arcF_inv qs'
  have i5 := Grp.arcF_inv (ps ++ ps')
  have i6 := Grp.arcF_inv (qs ++ qs')
  rw [h] at i2
  rw [h'] at i4
  rw [List.sum_append] at i5 i6
  rw [h, h'] at i6
  refine cnt_join i1 i2 i3 i4 i5 i6 ⟨fun i hi => ?_, fun i j _ _ e => e, fun i hi => ?_, fun i hi => ?_⟩ ⟨fun i hi => ?_, fun i j _ _ e => ?_, fun i hi => ?_, fun i hi => ?_⟩
  · show i < ps.sum + ps'.sum
    omega
  · show arcF ps i = arcF (ps ++ ps') i
    rw [arcF_left hi]
  · show arcF qs i = arcF (qs ++ qs') i
    rw [arcF_left (by omega)]
  · show ps.sum + i < ps.sum + ps'.sum
    omega
  · have e : ps.sum + i = ps.sum + j := e
    omega
  · show ps.sum + arcF ps' i = arcF (ps ++ ps') (ps.sum + i)
    rw [arcF_right hi]
  · show ps.sum + arcF qs' i = arcF (qs ++ qs') (ps.sum + i)
    have := arcF_right (ps := qs) (qs := qs') (j := i) (by omega)
    rw [h] at this
    rw [this]
end
end Go.Proofs.Ytigpmjebldgekaa.Grp
