/- At most as many curves as arches. No condition. -/
import Derived.Test.YtdghlhdpcmemjaaPA4B
namespace Go.Proofs.Ytdghlhdpcmemjaa.AL
open Go Go.Proofs.Ytdghlhdpcmemjaa.Arch
set_option linter.unusedVariables false
set_option linter.unusedSimpArgs false
theorem gt_paint {c x : Int} (h0 : 0 ≤ x) : ∀ (w ys : List Int), (∀ y ∈ w, 0 ≤ y) → x < ys.length → gt (paint ys w c) x = if x ∈ w then c else gt ys x
  | [], ys, _, _ => by simp [paint]
  | y :: w, ys, hw, hx => by
    have e : paint ys (y :: w) c = paint (ys.set y.toNat c) w c := rfl
    have hy := hw y (by simp)
    rw [e, gt_paint h0 w (ys.set y.toNat c) (fun z hz => hw z (by simp [hz])) (by simpa using hx)]
    by_cases hm : x ∈ w
    · simp [hm]
    · by_cases e2 : x = y
      · subst e2
        rw [if_neg hm, if_pos (by simp), gt_set (by omega) h0, if_pos (by omega)]
      · rw [if_neg hm, if_neg (by simp [hm, e2])]
        by_cases hl : y.toNat < ys.length
        · rw [gt_set hl h0, if_neg (by omega)]
        · rw [List.set_eq_of_length_le (by omega)]
def opens (p : List Int) (k : Nat) : Nat := ((List.range k).filter fun i : Nat => decide ((i : Int) < gt p (i : Int))).length
theorem opens_succ {p : List Int} {k : Nat} : opens p (k + 1) = opens p k + if (k : Int) < gt p k then 1 else 0 := by
  unfold opens
  rw [List.range_succ, List.filter_append, List.length_append]
  by_cases h : (k : Int) < gt p k <;> simp [h]
section
variable {p q : List Int}
theorem way_closed (h : Two p q) {i x : Int} (h0 : 0 ≤ i) (h1 : i < p.length) (hx : x ∈ wayL p q i) : gt p x ∈ wayL p q i := by
  unfold wayL wayTo at hx ⊢
  obtain ⟨j, hj, hm⟩ := List.mem_flatMap.1 hx
  have a := h.iter_in h0 h1 j
  refine List.mem_flatMap.2 ⟨j, hj, ?_⟩
  rcases List.mem_cons.1 hm with rfl | hm
  · simp
  · rcases List.mem_cons.1 hm with rfl | hm
    · rw [h.sp.inv _ a.1 a.2]
      simp
    · cases hm
theorem way_self (h : Two p q) {i : Int} (h0 : 0 ≤ i) (h1 : i < p.length) : i ∈ wayL p q i :=
  List.mem_flatMap.2 ⟨0, List.mem_range.2 (h.per_spec h0 h1).1, by simp [iter]⟩
theorem col_open (h : Two p q) : ∀ k, k ≤ p.length → (colTo p q k).2 ≤ opens p k ∧ (∀ x : Int, 0 ≤ x → x < p.length → 0 ≤ gt (colTo p q k).1 x → 0 ≤ gt (colTo p q k).1 (gt p x)) ∧ ∀ x : Int, 0 ≤ x → x < k → 0 ≤ gt (colTo p q k).1 x
  | 0, _ => by
    refine ⟨by simp [colTo], fun x h0 h1 hx => ?_, fun x h0 h1 => by omega⟩
    exfalso
    have e : gt (colTo p q 0).1 x = -1 := by
      have : x.toNat < p.length := by omega
      simp [colTo, gt, List.getD_eq_getElem?_getD, List.getElem?_replicate, this]
    omega
  | k + 1, hk => by
    obtain ⟨a, b, c⟩ := col_open h k (by omega)
    obtain ⟨cl, cc⟩ := colTo_len (p := p) (q := q) k
    have k0 : (0 : Int) ≤ (k : Int) := by omega
    have k1 : (k : Int) < p.length := by omega
    rw [colTo_succ, opens_succ]
    unfold colStep
    split
    · rename_i hc
      refine ⟨by omega, b, fun x h0 h1 => ?_⟩
      by_cases e : x = (k : Int)
      · rw [e]; exact hc
      · exact c x h0 (by omega)
    · rename_i hc
      have hw : ∀ y ∈ wayL p q k, 0 ≤ y := fun y hy => (h.way_in k0 k1 y hy).1
      have key : ∀ x : Int, 0 ≤ x → x < p.length → gt (paint (colTo p q k).1 (wayL p q k) ((colTo p q k).2 : Nat)) x = if x ∈ wayL p q k then (((colTo p q k).2 : Nat) : Int) else gt (colTo p q k).1 x := fun x h0 h1 =>
        gt_paint h0 _ _ hw (by omega)
      refine ⟨?_, fun x h0 h1 hx => ?_, fun x h0 h1 => ?_⟩
      · have hlo := h.sp.lo k k0 k1
        have hhi := h.sp.hi k k0 k1
        have hne := h.sp.ne k k0 k1
        have hgt : (k : Int) < gt p k := by
          rcases Int.lt_or_gt_of_ne hne with hlt | hgt
          · exfalso
            have := b (gt p k) hlo hhi (c (gt p k) hlo hlt)
            rw [h.sp.inv _ k0 k1] at this
            exact hc this
          · exact hgt
        rw [if_pos hgt]
        simp only
        omega
      · have hp := h.in1 h0 h1
        rw [key x h0 h1] at hx
        show 0 ≤ gt (paint (colTo p q k).1 (wayL p q k) ((colTo p q k).2 : Nat)) (gt p x)
        rw [key _ hp.1 hp.2.1]
        by_cases hm : x ∈ wayL p q k
        · rw [if_pos (way_closed h k0 k1 hm)]
          omega
        · rw [if_neg hm] at hx
          by_cases hm2 : gt p x ∈ wayL p q k
          · rw [if_pos hm2]; omega
          · rw [if_neg hm2]; exact b x h0 h1 hx
      · show 0 ≤ gt (paint (colTo p q k).1 (wayL p q k) ((colTo p q k).2 : Nat)) x
        rw [key x h0 (by omega)]
        by_cases hm : x ∈ wayL p q k
        · rw [if_pos hm]; omega
        · rw [if_neg hm]
          by_cases e : x = (k : Int)
          · subst e
            exact absurd (way_self h k0 k1) hm
          · exact c x h0 (by omega)
end
end Go.Proofs.Ytdghlhdpcmemjaa.AL
