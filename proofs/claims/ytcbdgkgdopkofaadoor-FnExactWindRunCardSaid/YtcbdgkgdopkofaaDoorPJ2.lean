/- Texts of seaweeds: both functions, and the law. No condition. -/
import Derived.Test.YtcbdgkgdopkofaaDoorPJ1
import Derived.Test.YtcbdgkgdopkofaaDoorPS2
namespace Go.Proofs.YtcbdgkgdopkofaaDoor.AL
open Go
set_option linter.unusedVariables false
set_option linter.unusedSimpArgs false
section
variable {fu : Nat} {p q : List Int}
theorem inW_take (hp : inW p = true) (k : Nat) : inW (p.take k) = true := by
  unfold inW at hp ⊢
  rw [List.all_eq_true] at hp ⊢
  exact fun x hx => hp x (List.mem_of_mem_take hx)
theorem swSide_L (hp : inW p = true) (hl : p.length ≤ 20) (hf : 20 < fu) : ∀ (d k n : Nat), k + d = p.length → d < n →
    F_spec_swSide_L1 fu p (p.length : Int) n (sumT (p.take k)) (k : Int) = some (sumT p, (p.length : Int)) := by
  intro d
  induction d with
  | zero =>
    intro k n hk hn
    cases n with
    | zero => omega
    | succ n =>
      simp only [F_spec_swSide_L1]
      rw [ilt_f (by omega), cond_false, List.take_of_length_le (by omega), show k = p.length by omega]
  | succ d ih =>
    intro k n hk hn
    cases n with
    | zero => omega
    | succ n =>
      have hk' : k < p.length := by omega
      obtain ⟨e1, e2, e3, e4⟩ := num_at (fu := fu) hp (List.getElem_mem hk') hf
      have hs := sumT_size (inW_take hp k)
      rw [List.length_take, Nat.min_eq_left (by omega)] at hs
      have hn2 : (num p[k]).size ≤ 2 := by rw [size_toList]; exact e4
      have hT : sumT (p.take (k + 1)) = if 0 < k then sapp (sapp (sumT (p.take k)) (ByteArray.mk #[43])) (num p[k]) else sapp (sumT (p.take k)) (num p[k]) := by
        rw [List.take_succ_eq_append_getElem hk']
        by_cases h : 0 < k
        · rw [if_pos h, sumT_snoc (by intro h2; have := congrArg List.length h2; rw [List.length_take, List.length_nil] at this; omega)]
        · have : k = 0 := by omega
          subst this
          rw [if_neg h]
          simp only [List.take_zero, List.nil_append, sumT_one]
          exact ba_ext (by rw [sapp_toList, sumT_nil]; rfl)
      simp only [F_spec_swSide_L1]
      rw [ilt_t (by omega), cond_true, gd_t (inL_nat hk'), gat_nat hk', e2, iadd_id (by omega) (by omega), show ((k : Int) + 1) = ((k + 1 : Nat) : Int) by omega]
      have h1 : (ByteArray.mk #[43]).size = 1 := rfl
      by_cases h : 0 < k
      · rw [if_pos h] at hT
        rw [ilt_t (by omega), cond_true, gd_t (by rw [h1]; omega), bd_of, bd_of]
        have hz : (sapp (sumT (p.take k)) (ByteArray.mk #[43])).size = (sumT (p.take k)).size + 1 := by
          rw [size_toList, sapp_toList, List.length_append, ← size_toList]
          rfl
        rw [gd_t (by rw [hz]; omega), ← hT]
        exact ih (k + 1) n (by omega) (by omega)
      · rw [if_neg h] at hT
        rw [ilt_f (by omega), cond_false, bd_of, bd_of, gd_t (by omega), ← hT]
        exact ih (k + 1) n (by omega) (by omega)
theorem sumT_pos (hp : inW p = true) (h : p.length ≠ 0) : (sumT p).size ≠ 0 := by
  cases p with
  | nil => simp at h
  | cons a l =>
    have := (num_at (fu := 30) hp (List.mem_cons_self ..) (by omega)).2.2.1
    rw [size_toList, sumT_toList]
    simp only [List.map_cons, Lib.join_cons, List.length_append]
    omega
theorem swSide_eq (hp : inW p = true) (hl : p.length ≤ 20) (hf : 20 < fu) : F_spec_swSide fu p = some (sideT p) := by
  unfold F_spec_swSide
  have := swSide_L (fu := fu) hp hl hf p.length 0 fu (by omega) (by omega)
  rw [Int.natCast_zero, List.take_zero, sumT_nil] at this
  simp only [llen]
  rw [this, bd_of]
  simp only
  rw [seq_nil]
  unfold sideT
  by_cases h : p.length = 0
  · have : p = [] := List.length_eq_zero_iff.1 h
    subst this
    rfl
  · rw [decide_eq_false (sumT_pos hp h), cond_false, if_neg h]
theorem partsText_L (hp : inW p = true) (hl : p.length ≤ 20) (hf : 20 < fu) : ∀ (d k n : Nat), k + d = p.length → d < n →
    F_impl_partsText_L1 fu p (p.length : Int) n ((p.take k).map num) (k : Int) = some (p.map num, (p.length : Int)) := by
  intro d
  induction d with
  | zero =>
    intro k n hk hn
    cases n with
    | zero => omega
    | succ n =>
      simp only [F_impl_partsText_L1]
      rw [ilt_f (by omega), cond_false, List.take_of_length_le (by omega), show k = p.length by omega]
  | succ d ih =>
    intro k n hk hn
    cases n with
    | zero => omega
    | succ n =>
      have hk' : k < p.length := by omega
      obtain ⟨e1, e2, e3, e4⟩ := num_at (fu := fu) hp (List.getElem_mem hk') hf
      simp only [F_impl_partsText_L1]
      rw [ilt_t (by omega), cond_true, gd_t (inL_nat hk'), gat_nat hk', e1, bd_of, gd_t (by simp; omega), iadd_id (by omega) (by omega), show ((k : Int) + 1) = ((k + 1 : Nat) : Int) by omega]
      have : lapp ((p.take k).map num) [num p[k]] = (p.take (k + 1)).map num := by
        rw [List.take_succ_eq_append_getElem hk', List.map_append]
        rfl
      rw [this]
      exact ih (k + 1) n (by omega) (by omega)
theorem partsText_eq (hp : inW p = true) (hl : p.length ≤ 20) (hf : 20 < fu) : F_impl_partsText fu p = some (sideT p) := by
  unfold F_impl_partsText
  have := partsText_L (fu := fu) hp hl hf p.length 0 fu (by omega) (by omega)
  rw [Int.natCast_zero, List.take_zero] at this
  simp only [llen]
  rw [show (@List.nil ByteArray) = ([] : List Int).map num from rfl, this, bd_of]
  simp only [List.length_map]
  unfold sideT
  by_cases h : p.length = 0
  · rw [ieq_t (by omega), cond_true, if_pos h]
  · rw [ieq_f (by omega), cond_false, if_neg h]
    unfold F_strings_Join
    have hj := sumT_len hp
    rw [gd_t ⟨by simp; omega, by
      show (Lib.join ((p.map num).map (·.data.toList)) [43]).length ≤ _
      omega⟩, bd_of]
    rfl
theorem sideT_size (hp : inW p = true) : (sideT p).size ≤ 3 * p.length + 1 := by
  unfold sideT
  split
  · exact Nat.le_add_left _ _
  · exact Nat.le_succ_of_le (sumT_size hp)
theorem sapp_size (a b : ByteArray) : (sapp a b).size = a.size + b.size := by
  rw [size_toList, sapp_toList, List.length_append, ← size_toList, ← size_toList]
theorem swText_eq (h : weedB p q = true) (hf : 20 < fu) : F_spec_swText fu p q = some (sw2T p q) := by
  obtain ⟨⟨a1, a2, a3⟩, ⟨b1, b2, b3⟩, c⟩ := weed_parts h
  have s1 := sideT_size a1
  have s2 := sideT_size b1
  have h1 : (ByteArray.mk #[124]).size = 1 := rfl
  unfold F_spec_swText
  rw [swSide_eq a1 a2 hf, swSide_eq b1 b2 hf, bd_of, bd_of, gd_t (by rw [h1]; omega), gd_t (by rw [sapp_size, h1]; omega)]
  rfl
theorem seaweedText_eq (h : weedB p q = true) (hf : 20 < fu) : F_impl_seaweedText fu p q = some (sw2T p q) := by
  obtain ⟨⟨a1, a2, a3⟩, ⟨b1, b2, b3⟩, c⟩ := weed_parts h
  have s1 := sideT_size a1
  have s2 := sideT_size b1
  have h1 : (ByteArray.mk #[124]).size = 1 := rfl
  unfold F_impl_seaweedText
  rw [partsText_eq a1 a2 hf, partsText_eq b1 b2 hf, bd_of, bd_of, gd_t (by rw [h1]; omega), gd_t (by rw [sapp_size, h1]; omega)]
  rfl
end
end Go.Proofs.YtcbdgkgdopkofaaDoor.AL
