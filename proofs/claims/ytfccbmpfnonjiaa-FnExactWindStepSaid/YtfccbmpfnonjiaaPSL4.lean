/- What a seaweed is, its groups and its index: the program's and the reference's are one; rows of rows marked. No condition. -/
import Derived.Test.YtfccbmpfnonjiaaPSL3
import Derived.Test.YtfccbmpfnonjiaaPS2
namespace Go.Proofs.Ytfccbmpfnonjiaa.AL
open Go
set_option linter.unusedVariables false
set_option linter.unusedSimpArgs false
section
variable {fu : Nat}
theorem swSum_L {p : List Int} (hp : inW p = true) (hl : p.length ≤ 20) : ∀ (d k n : Nat) (s : Int), k + d = p.length → d < n → 0 ≤ s → s ≤ 20 * (k : Int) →
    F_spec_swSum_L1 fu p (p.length : Int) n s (k : Int) = some (s + (p.drop k).sum, (p.length : Int)) := by
  intro d
  induction d with
  | zero =>
    intro k n s hk hn h0 h1
    cases n with
    | zero => omega
    | succ n =>
      simp only [F_spec_swSum_L1]
      rw [ilt_f (by omega), cond_false, List.drop_of_length_le (by omega)]
      simp; omega
  | succ d ih =>
    intro k n s hk hn h0 h1
    cases n with
    | zero => omega
    | succ n =>
      have hk' : k < p.length := by omega
      have hm := List.all_eq_true.1 hp _ (List.getElem_mem hk')
      simp at hm
      simp only [F_spec_swSum_L1]
      rw [ilt_t (by omega), cond_true, gd_t (inL_nat hk'), gat_nat hk', iadd_id (by omega) (by omega), iadd_id (by omega) (by omega), show ((k : Int) + 1) = ((k + 1 : Nat) : Int) by omega,
        ih (k + 1) n _ (by omega) (by omega) (by omega) (by omega), List.drop_eq_getElem_cons hk', List.sum_cons, Int.add_assoc]
theorem swSum_eq {p : List Int} (hp : inW p = true) (hl : p.length ≤ 20) (hf : 20 < fu) : F_spec_swSum fu p = some p.sum := by
  unfold F_spec_swSum
  have := swSum_L (fu := fu) hp hl p.length 0 fu 0 (by omega) (by omega) (by omega) (by omega)
  rw [Int.natCast_zero] at this
  simp only [llen]
  rw [this, bd_of]
  simp
def partsB (p : List Int) : Bool := decide (p.length ≤ 20) && inW p && decide (p.sum ≤ 20)
theorem sParts_eq {p : List Int} (hf : 20 < fu) : F_spec_swParts fu p = some (partsB p) := by
  by_cases h : p.length ≤ 20
  · rw [swParts_eq h hf]
    unfold partsB
    rw [decide_eq_true h, Bool.true_and]
    cases h2 : inW p
    · rfl
    · rw [cond_true, swSum_eq h2 h hf, bd_of, ile_eq, Bool.true_and]
  · unfold F_spec_swParts
    rw [ilt_t (by simp only [llen]; omega), cond_true, bd_of, cond_true]
    simp [partsB, h]
theorem iParts_eq {p : List Int} (hf : 20 < fu) : F_impl_areParts fu p = some (partsB p) := by
  by_cases h : p.length ≤ 20
  · rw [areParts_eq h hf, sParts_eq hf]
  · unfold F_impl_areParts
    rw [ile_f (by simp only [llen]; omega), cond_false]
    simp [partsB, h]
def weedB (p q : List Int) : Bool := partsB p && partsB q && decide (p.sum = q.sum)
theorem partsB_in {p : List Int} (h : partsB p = true) : inW p = true ∧ p.length ≤ 20 ∧ p.sum ≤ 20 := by
  simp [partsB] at h
  exact ⟨h.1.2, h.1.1, h.2⟩
theorem swGood_eq {p q : List Int} (hf : 20 < fu) : F_spec_swGood fu p q = some (weedB p q) := by
  unfold F_spec_swGood
  rw [sParts_eq hf, sParts_eq hf, bd_of]
  unfold weedB
  cases h1 : partsB p
  · rfl
  · rw [cond_true, bd_of]
    cases h2 : partsB q
    · rfl
    · rw [cond_true, swSum_eq (partsB_in h1).1 (partsB_in h1).2.1 hf, swSum_eq (partsB_in h2).1 (partsB_in h2).2.1 hf, bd_of, bd_of, ieq_eq]
      simp only [Bool.true_and, Option.some.injEq]
      by_cases e : p.sum = q.sum <;> simp [e]
theorem isWeed_eq {p q : List Int} (hf : 20 < fu) : F_impl_IsSeaweed fu p q = some (weedB p q) := by
  rw [← swGood_eq (fu := fu) hf]
  unfold F_impl_IsSeaweed F_spec_swGood
  rw [iParts_eq hf, sParts_eq hf, iParts_eq hf, sParts_eq hf, sum_eq, sum_eq]
theorem nats_of {p : List Int} (h : inW p = true) : p = nats (p.map Int.toNat) ∧ ((p.map Int.toNat).sum : Int) = p.sum := by
  unfold inW at h
  induction p with
  | nil => exact ⟨rfl, rfl⟩
  | cons a p ih =>
    rw [List.all_cons, Bool.and_eq_true] at h
    obtain ⟨e1, e2⟩ := ih h.2
    have ha := h.1
    simp at ha
    refine ⟨?_, ?_⟩
    · rw [List.map_cons, nats_cons, ← e1]
      congr 1
      omega
    · rw [List.map_cons, List.sum_cons, List.sum_cons]
      omega
/-- The groups of a seaweed, paths or cycles. -/
noncomputable def grpsOf (p q : List Int) (b : Bool) : List (List Int) :=
  Grp.told (p.map Int.toNat).sum (Grp.arcF (p.map Int.toNat)) (Grp.arcF (q.map Int.toNat)) b (p.map Int.toNat).sum
theorem weed_parts {p q : List Int} (h : weedB p q = true) : (inW p = true ∧ p.length ≤ 20 ∧ p.sum ≤ 20) ∧ (inW q = true ∧ q.length ≤ 20 ∧ q.sum ≤ 20) ∧ p.sum = q.sum := by
  simp only [weedB, Bool.and_eq_true, decide_eq_true_eq] at h
  exact ⟨partsB_in h.1.1, partsB_in h.1.2, h.2⟩
theorem iGroups {p q : List Int} (h : weedB p q = true) (hf : 100000 < fu) : F_impl_Seaweed_groups fu p q = some (grpsOf p q true, grpsOf p q false) := by
  obtain ⟨⟨a1, a2, a3⟩, ⟨b1, b2, b3⟩, c⟩ := weed_parts h
  obtain ⟨e1, e2⟩ := nats_of a1
  obtain ⟨e3, e4⟩ := nats_of b1
  have := groups_eq (fu := fu) (ps := p.map Int.toNat) (qs := q.map Int.toNat) hf (by simp; omega) (by simp; omega) (by omega) (by omega)
  rw [← e1, ← e3] at this
  exact this
theorem sGroups {p q : List Int} {b : Bool} (h : weedB p q = true) (hf : 100000 < fu) : F_spec_swTogether fu p q b = some (grpsOf p q b) := by
  obtain ⟨⟨a1, a2, a3⟩, ⟨b1, b2, b3⟩, c⟩ := weed_parts h
  obtain ⟨e1, e2⟩ := nats_of a1
  obtain ⟨e3, e4⟩ := nats_of b1
  have := together_eq (fu := fu) (ps := p.map Int.toNat) (qs := q.map Int.toNat) (p := b) hf (by simp; omega) (by simp; omega) (by omega) (by omega)
  rw [← e1, ← e3] at this
  exact this
theorem told_both {N : Nat} {t b : Nat → Nat} : ∀ i, (Grp.told N t b true i).length + (Grp.told N t b false i).length ≤ i ∧ (0 < i → 1 ≤ (Grp.told N t b true i).length + (Grp.told N t b false i).length)
  | 0 => by simp [Grp.told]
  | i + 1 => by
    obtain ⟨h1, h2⟩ := told_both (N := N) (t := t) (b := b) i
    by_cases ho : Grp.Old t b i i
    · rw [told_old ho, told_old ho]
      have : 0 < i := by
        obtain ⟨j, hj, _⟩ := ho
        omega
      exact ⟨by omega, fun _ => h2 this⟩
    · cases e : (Grp.cls N t b i).any (Grp.tip t b)
      · rw [told_no ho (by rw [e]; simp), told_yes ho e]
        simp; omega
      · rw [told_yes ho e, told_no ho (by rw [e]; simp)]
        simp; omega
theorem grps_len {p q : List Int} (h : weedB p q = true) : (grpsOf p q true).length + (grpsOf p q false).length ≤ 20 ∧ ((grpsOf p q true).length + (grpsOf p q false).length : Int) ≤ p.sum ∧ (0 < p.sum → 1 ≤ (grpsOf p q true).length + (grpsOf p q false).length) := by
  obtain ⟨⟨a1, a2, a3⟩, ⟨b1, b2, b3⟩, c⟩ := weed_parts h
  obtain ⟨e1, e2⟩ := nats_of a1
  obtain ⟨h1, h2⟩ := told_both (N := (p.map Int.toNat).sum) (t := Grp.arcF (p.map Int.toNat)) (b := Grp.arcF (q.map Int.toNat)) (p.map Int.toNat).sum
  unfold grpsOf
  exact ⟨by omega, by omega, fun hp => h2 (by omega)⟩
theorem cls_len {N : Nat} {t b : Nat → Nat} {i : Nat} : (Grp.cls N t b i).length ≤ N := by
  have := List.length_filter_le (fun j => @decide (Grp.Reach t b i j) (Classical.propDecidable _)) (List.range N)
  simpa [Grp.cls] using this
theorem told_rows {N : Nat} {t b : Nat → Nat} {p : Bool} : ∀ i, ∀ r ∈ Grp.told N t b p i, r.length ≤ N
  | 0, r, h => by simp [Grp.told] at h
  | i + 1, r, h => by
    by_cases ho : Grp.Old t b i i
    · rw [told_old ho] at h
      exact told_rows i r h
    · by_cases e : (Grp.cls N t b i).any (Grp.tip t b) = p
      · rw [told_yes ho e] at h
        rcases List.mem_append.1 h with h | h
        · exact told_rows i r h
        · simp at h
          subst h
          simp [cls_len]
      · rw [told_no ho e] at h
        exact told_rows i r h
theorem grps_rows {p q : List Int} {b : Bool} (h : weedB p q = true) : ∀ r ∈ grpsOf p q b, r.length ≤ 20 := by
  obtain ⟨⟨a1, a2, a3⟩, ⟨b1, b2, b3⟩, c⟩ := weed_parts h
  obtain ⟨e1, e2⟩ := nats_of a1
  intro r hr
  have := told_rows _ r hr
  omega
noncomputable def idxOf (p q : List Int) : Int := isub .i64 (iadd .i64 (imul .i64 2 (llen (grpsOf p q false))) (llen (grpsOf p q true))) 1
theorem iIndex {p q : List Int} (h : weedB p q = true) (hf : 100000 < fu) : F_impl_Seaweed_index fu p q = some (idxOf p q) := by
  unfold F_impl_Seaweed_index
  rw [iGroups h hf, bd_of]
  rfl
theorem sIndex {p q : List Int} (h : weedB p q = true) (hf : 100000 < fu) : F_spec_swIndex fu p q = some (idxOf p q) := by
  unfold F_spec_swIndex
  rw [sGroups h hf, sGroups h hf, bd_of, bd_of]
  rfl
/-! Rows marked -/
def marksSS (m : Int) : List (List Int) → List (List Int)
  | [] => []
  | r :: rs => marks m r.length :: marksSS (m + (r.length : Int)) rs
def cellsN (rs : List (List Int)) : Nat := (rs.map List.length).sum
theorem marksSS_len : ∀ {rs : List (List Int)} {m : Int}, (marksSS m rs).length = rs.length
  | [], _ => rfl
  | r :: rs, m => by simp [marksSS, marksSS_len (rs := rs)]
theorem gat_at {pre rest : List (List Int)} {r : List Int} {k : Nat} (h : pre.length = k) : gat [] (pre ++ r :: rest) (k : Int) = r := by
  subst h
  simp [gat_eq]
theorem lset_at {pre rest : List (List Int)} {r r' : List Int} {k : Nat} (h : pre.length = k) : lset (pre ++ r :: rest) (k : Int) r' = pre ++ r' :: rest := by
  subst h
  simp [lset]
theorem markSS_L (hf : 1048576 < fu) : ∀ (rest pre : List (List Int)) (k n : Nat) (m : Int), pre.length = k → rest.length < n → pre.length + rest.length ≤ 1048576 → 0 ≤ m → m + (cellsN rest : Int) ≤ 16777216 → (∀ r ∈ rest, r.length ≤ 1048576) →
    F_laws_markIntSS_L1 fu n (pre ++ rest) m (k : Int) = some (pre ++ marksSS m rest, m + (cellsN rest : Int), ((pre.length + rest.length : Nat) : Int)) := by
  intro rest
  induction rest with
  | nil =>
    intro pre k n m hk hn hl h0 h1 hr
    cases n with
    | zero => simp at hn
    | succ n =>
      simp only [F_laws_markIntSS_L1]
      rw [ilt_f (by simp [llen]; omega), cond_false]
      simp [marksSS, cellsN, hk]
  | cons r rest ih =>
    intro pre k n m hk hn hl h0 h1 hr
    cases n with
    | zero => simp at hn
    | succ n =>
      simp at hl hn
      have hc : cellsN (r :: rest) = r.length + cellsN rest := by simp [cellsN]
      have hrl := hr r (by simp)
      simp only [F_laws_markIntSS_L1]
      rw [ilt_t (by simp [llen]; omega), cond_true, gd_t (inL_nat (by simp; omega)), gat_at hk, markIntS_eq h0 (by omega) (by omega), bd_of, lset_at hk, iadd_id (by omega) (by omega), show ((k : Int) + 1) = ((k + 1 : Nat) : Int) by omega]
      have := ih (pre ++ [marks m r.length]) (k + 1) n (m + (r.length : Int)) (by simp [hk]) (by omega) (by simp; omega) (by omega) (by omega) (fun x hx => hr x (by simp [hx]))
      simp only [List.append_assoc, List.singleton_append] at this
      rw [this, hc]
      simp [marksSS]
      omega
theorem markSS_eq {rs : List (List Int)} {m : Int} (hf : 1048576 < fu) (hl : rs.length ≤ 1048576) (h0 : 0 ≤ m) (h1 : m + (cellsN rs : Int) ≤ 16777216) (hr : ∀ r ∈ rs, r.length ≤ 1048576) :
    F_laws_markIntSS fu rs m = some (m + (cellsN rs : Int), marksSS m rs) := by
  have := markSS_L (fu := fu) hf rs [] 0 fu m rfl (by omega) (by simpa using hl) h0 h1 hr
  rw [Int.natCast_zero] at this
  simp only [List.nil_append] at this
  unfold F_laws_markIntSS
  rw [this, bd_of]
theorem heldSS_L (hf : 1048576 < fu) : ∀ (rest pre : List (List Int)) (k n : Nat) (m : Int), pre.length = k → rest.length < n → pre.length + rest.length ≤ 1048576 → 0 ≤ m → m + (cellsN rest : Int) ≤ 16777216 → (∀ r ∈ rest, r.length ≤ 1048576) →
    F_laws_heldIntSS_L1 fu (pre ++ marksSS m rest) n m (k : Int) = some (.brk (m + (cellsN rest : Int), ((pre.length + rest.length : Nat) : Int))) := by
  intro rest
  induction rest with
  | nil =>
    intro pre k n m hk hn hl h0 h1 hr
    cases n with
    | zero => simp at hn
    | succ n =>
      simp only [F_laws_heldIntSS_L1]
      rw [ilt_f (by simp [llen, marksSS]; omega), cond_false]
      simp [marksSS, cellsN, hk]
  | cons r rest ih =>
    intro pre k n m hk hn hl h0 h1 hr
    cases n with
    | zero => simp at hn
    | succ n =>
      simp at hl hn
      have hc : cellsN (r :: rest) = r.length + cellsN rest := by simp [cellsN]
      have hrl := hr r (by simp)
      rw [show marksSS m (r :: rest) = marks m r.length :: marksSS (m + (r.length : Int)) rest from rfl]
      simp only [F_laws_heldIntSS_L1]
      rw [ilt_t (by simp [llen, marksSS_len]; omega), cond_true, gd_t (inL_nat (by simp; omega)), gat_at hk, heldIntS_eq h0 (by omega) (by omega), bd_of, ilt_f (by omega), cond_false, iadd_id (by omega) (by omega), show ((k : Int) + 1) = ((k + 1 : Nat) : Int) by omega]
      have := ih (pre ++ [marks m r.length]) (k + 1) n (m + (r.length : Int)) (by simp [hk]) (by omega) (by simp; omega) (by omega) (by omega) (fun x hx => hr x (by simp [hx]))
      simp only [List.append_assoc, List.singleton_append] at this
      rw [this, hc]
      simp
      omega
theorem heldSS_eq {rs : List (List Int)} {m : Int} (hf : 1048576 < fu) (hl : rs.length ≤ 1048576) (h0 : 0 ≤ m) (h1 : m + (cellsN rs : Int) ≤ 16777216) (hr : ∀ r ∈ rs, r.length ≤ 1048576) :
    F_laws_heldIntSS fu (marksSS m rs) m = some (m + (cellsN rs : Int)) := by
  have := heldSS_L (fu := fu) hf rs [] 0 fu m rfl (by omega) (by simpa using hl) h0 h1 hr
  rw [Int.natCast_zero] at this
  simp only [List.nil_append] at this
  unfold F_laws_heldIntSS
  rw [this, bd_of]
  rfl
theorem eqSS_L {rs : List (List Int)} (hf : 1048576 < fu) (hl : rs.length ≤ 1048576) (hr : ∀ r ∈ rs, r.length ≤ 1048576) : ∀ (d k n : Nat), k + d = rs.length → d < n →
    F_laws_eqIntSS_L1 fu rs rs n (k : Int) = some (.brk (rs.length : Int)) := by
  intro d
  induction d with
  | zero =>
    intro k n hk hn
    cases n with
    | zero => omega
    | succ n =>
      simp only [F_laws_eqIntSS_L1, llen]
      rw [ilt_f (by omega), cond_false]
      congr 2
      omega
  | succ d ih =>
    intro k n hk hn
    cases n with
    | zero => omega
    | succ n =>
      have hk' : k < rs.length := by omega
      have := hr _ (List.getElem_mem hk')
      simp only [F_laws_eqIntSS_L1, llen]
      rw [ilt_t (by omega), cond_true, gd_t (inL_nat hk'), gd_t (inL_nat hk'), gat_nat hk', eqIntS_eq (by omega) (by omega), bd_of, show bnot true = false from rfl, cond_false, iadd_id (by omega) (by omega)]
      exact ih (k + 1) n (by omega) (by omega)
theorem eqSS_eq {rs : List (List Int)} (hf : 1048576 < fu) (hl : rs.length ≤ 1048576) (hr : ∀ r ∈ rs, r.length ≤ 1048576) : F_laws_eqIntSS fu rs rs = some true := by
  have := eqSS_L (fu := fu) hf hl hr rs.length 0 fu (by omega) (by omega)
  rw [Int.natCast_zero] at this
  unfold F_laws_eqIntSS
  rw [ine_f rfl, cond_false, this, bd_of]
  rfl
theorem cellsN_le {c : Nat} : ∀ {rs : List (List Int)}, (∀ r ∈ rs, r.length ≤ c) → cellsN rs ≤ c * rs.length
  | [], _ => by simp [cellsN]
  | r :: rs, h => by
    have h1 := h r (by simp)
    have h2 := cellsN_le (rs := rs) fun x hx => h x (by simp [hx])
    have hc : cellsN (r :: rs) = r.length + cellsN rs := by simp [cellsN]
    rw [hc, List.length_cons, Nat.mul_add, Nat.mul_one]
    omega
end
end Go.Proofs.Ytfccbmpfnonjiaa.AL
