/- What lies inside and outside of a closed stretch: the program's and the reference's are one. No condition. -/
import Derived.Test.YtbckijeffiofdaaPC1
namespace Go.Proofs.Ytbckijeffiofdaa.AL
open Go Go.Proofs.Ytbckijeffiofdaa.Arch
set_option linter.unusedVariables false
set_option linter.unusedSimpArgs false
section
variable {fu : Nat} {p q : List Int} {I J : Nat}
def Joint (p : List Int) : Prop := ∀ k : Nat, k < p.length → 0 ≤ gat 0 p (k : Int) ∧ gat 0 p (k : Int) < p.length ∧ gat 0 p (gat 0 p (k : Int)) = (k : Int)
theorem sys_joint (h : ArcS p) : Joint p := fun k hk => ⟨ArcS.lo' h k (by omega) (by omega), ArcS.hi' h k (by omega) (by omega), ArcS.inv' h k (by omega) (by omega)⟩
def kept (g : Nat → Bool) : Nat → Nat
  | 0 => 0
  | k + 1 => kept g k + if g k then 0 else 1
theorem kept_le (g : Nat → Bool) : ∀ k, kept g k ≤ k
  | 0 => Nat.le_refl _
  | k + 1 => by
    have := kept_le g k
    unfold kept
    split <;> omega
def places (g : Nat → Bool) (n : Nat) : List Int := (List.range n).map fun x => (kept g x : Int)
theorem places_len {g : Nat → Bool} {n : Nat} : (places g n).length = n := by simp [places]
theorem places_gat {g : Nat → Bool} {n : Nat} {z : Int} (h0 : 0 ≤ z) (h1 : z < n) : gat 0 (places g n) z = (kept g z.toNat : Int) := by
  have e : z = ((z.toNat : Nat) : Int) := by omega
  have hz : z.toNat < n := by omega
  have e2 : gat 0 (places g n) ((z.toNat : Nat) : Int) = (kept g z.toNat : Int) := by
    rw [gat_nat (by rw [places_len]; exact hz)]
    simp [places]
  rw [← e2, ← e]
theorem wo_L1 {f : Int → Option Bool} {g : Nat → Bool} (hl : p.length ≤ 1000) (hg : ∀ k : Nat, k < p.length → f (k : Int) = some (g k)) : ∀ (d k n : Nat) (l : List Int), k + d = p.length → d < n → l.length = p.length → l.take k = (places g p.length).take k →
    F_impl_without_L1 fu p f (p.length : Int) n l (kept g k : Int) (k : Int) = some (places g p.length, (kept g p.length : Int), (p.length : Int)) := by
  intro d
  induction d with
  | zero =>
    intro k n l hk hn hll ht
    cases n with
    | zero => omega
    | succ n =>
      have : k = p.length := by omega
      subst this
      rw [List.take_of_length_le (by omega), List.take_of_length_le (by rw [places_len]; omega)] at ht
      subst ht
      simp only [F_impl_without_L1]
      rw [ilt_f (by omega), cond_false]
  | succ d ih =>
    intro k n l hk hn hll ht
    cases n with
    | zero => omega
    | succ n =>
      have hk' : k < p.length := by omega
      have hle := kept_le g k
      have hs : l.length = (l.set k (kept g k : Int)).length := by simp
      have ht' : (l.set k (kept g k : Int)).take (k + 1) = (places g p.length).take (k + 1) := by
        refine take_succ_eq ?_ (by simp; omega) (by rw [places_len]; omega) ?_
        · rw [List.take_set_of_le (Nat.le_refl k), ht]
        · simp [places]
      have := ih (k + 1) n (l.set k (kept g k : Int)) (by omega) (by omega) (by simp [hll]) ht'
      simp only [F_impl_without_L1]
      rw [ilt_t (by omega), cond_true, gd_t (inL_nat (by omega)), hg k hk', bd_of, lset_nat, iadd_id (a := (k : Int)) (by omega) (by omega), show ((k : Int) + 1) = ((k + 1 : Nat) : Int) by omega]
      have e : kept g (k + 1) = kept g k + if g k then 0 else 1 := rfl
      cases h : g k
      · rw [h] at e
        rw [show bnot false = true from rfl, cond_true, iadd_id (by omega) (by omega), ← this, e]
        simp
      · rw [h] at e
        rw [show bnot true = false from rfl, cond_false, ← this, e]
        simp
theorem wo_L2 {f : Int → Option Bool} {g : Nat → Bool} {pl : List Int} (hl : p.length ≤ 1000) (hg : ∀ k : Nat, k < p.length → f (k : Int) = some (g k)) (hr : ∀ k : Nat, k < p.length → g k = false → inL pl (gat 0 p (k : Int))) : ∀ (d k n : Nat) (l : List Int), k + d = p.length → d < n → l.length + d ≤ 100000 →
    F_impl_without_L2 fu f pl p (p.length : Int) n l (k : Int) = some (l ++ ((List.range' k d).filter fun x => !g x).map (fun x : Nat => gat 0 pl (gat 0 p (x : Int))), (p.length : Int)) := by
  intro d
  induction d with
  | zero =>
    intro k n l hk hn hll
    cases n with
    | zero => omega
    | succ n =>
      simp only [F_impl_without_L2]
      rw [ilt_f (by omega), cond_false]
      simp; omega
  | succ d ih =>
    intro k n l hk hn hll
    cases n with
    | zero => omega
    | succ n =>
      have hk' : k < p.length := by omega
      simp only [F_impl_without_L2]
      rw [ilt_t (by omega), cond_true, gd_t (inL_nat (by omega)), hg k hk', bd_of, iadd_id (by omega) (by omega), show ((k : Int) + 1) = ((k + 1 : Nat) : Int) by omega, List.range'_succ]
      cases h : g k
      · rw [show bnot false = true from rfl, cond_true, gd_t (hr k hk' h), gd_t (by simp; omega), ih (k + 1) n _ (by omega) (by omega) (by simp [lapp]; omega), List.filter_cons_of_pos (by simp [h])]
        simp [lapp]
      · rw [show bnot true = false from rfl, cond_false, ih (k + 1) n _ (by omega) (by omega) (by omega), List.filter_cons_of_neg (by simp [h])]
def woL (p : List Int) (g : Nat → Bool) : List Int := ((List.range p.length).filter fun x => !g x).map fun x : Nat => (kept g (gat 0 p (x : Int)).toNat : Int)
theorem without_eq {f : Int → Option Bool} {g : Nat → Bool} (hl : p.length ≤ 1000) (hf : 2000 < fu) (hg : ∀ k : Nat, k < p.length → f (k : Int) = some (g k)) (hr : ∀ k : Nat, k < p.length → g k = false → 0 ≤ gat 0 p (k : Int) ∧ gat 0 p (k : Int) < p.length) :
    F_impl_without fu p f = some (woL p g) := by
  have h1 := wo_L1 (fu := fu) hl hg p.length 0 fu (lrep (llen p) (0 : Int)) (by omega) (by omega) (by simp [lrep, llen]) (by simp)
  have h2 := wo_L2 (fu := fu) (pl := places g p.length) hl hg (fun k hk h => inL_mk (hr k hk h).1 (by rw [places_len]; exact (hr k hk h).2)) p.length 0 fu [] (by omega) (by omega) (by simp; omega)
  have e0 : ((kept g 0 : Nat) : Int) = 0 := rfl
  rw [e0, Int.natCast_zero] at h1
  rw [Int.natCast_zero] at h2
  unfold F_impl_without
  rw [gd_t (by simp only [llen]; omega)]
  simp only [show llen p = (p.length : Int) from rfl] at h1 ⊢
  rw [h1, bd_of, h2, bd_of]
  simp only [List.nil_append, Option.some.injEq]
  unfold woL
  rw [← List.range_eq_range']
  refine List.map_congr_left fun x hx => ?_
  obtain ⟨h3, h4⟩ := List.mem_filter.1 hx
  have h3 := List.mem_range.1 h3
  have h4 : g x = false := by simpa using h4
  exact places_gat (hr x h3 h4).1 (hr x h3 h4).2
def inN (I J : Nat) (x : Nat) : Bool := decide (I ≤ x ∧ x ≤ J)
theorem kept_out (h : I ≤ J) : ∀ x, kept (inN I J) x = if x ≤ I then x else if x ≤ J + 1 then I else x - (J + 1 - I)
  | 0 => by simp [kept]
  | x + 1 => by
    rw [kept, kept_out h x]
    unfold inN
    by_cases c : I ≤ x ∧ x ≤ J
    · simp only [c, and_self, decide_true, if_true]
      (repeat' split) <;> omega
    · simp only [c, decide_false, Bool.false_eq_true, if_false]
      (repeat' split) <;> omega
theorem kept_in (h : I ≤ J) : ∀ x, kept (fun y => !inN I J y) x = if x ≤ I then 0 else if x ≤ J + 1 then x - I else J + 1 - I
  | 0 => by simp [kept]
  | x + 1 => by
    rw [kept, kept_in h x]
    unfold inN
    by_cases c : I ≤ x ∧ x ≤ J
    · simp only [c, and_self, decide_true, Bool.not_true, Bool.false_eq_true, if_false]
      (repeat' split) <;> omega
    · simp only [c, decide_false, Bool.not_false, if_true]
      (repeat' split) <;> omega
theorem kept_all : ∀ x, kept (fun _ => false) x = x
  | 0 => rfl
  | x + 1 => by rw [kept, kept_all x]; simp
theorem filt_out {n : Nat} (h : I ≤ J) (hn : J < n) : ((List.range n).filter fun x => !inN I J x) = List.range I ++ List.range' (J + 1) (n - (J + 1)) := by
  have e : List.range n = List.range I ++ (List.range' I (J + 1 - I) ++ List.range' (J + 1) (n - (J + 1))) := by
    rw [List.range_eq_range', List.range_eq_range']
    have e1 := List.range'_append (s := I) (m := J + 1 - I) (n := n - (J + 1)) (step := 1)
    rw [show I + 1 * (J + 1 - I) = J + 1 by omega] at e1
    rw [e1]
    have e2 := List.range'_append (s := 0) (m := I) (n := J + 1 - I + (n - (J + 1))) (step := 1)
    rw [show 0 + 1 * I = I by omega] at e2
    rw [e2]
    congr 1
    omega
  rw [e, List.filter_append, List.filter_append]
  have f1 : (List.range I).filter (fun x => !inN I J x) = List.range I := List.filter_eq_self.2 fun x hx => by
    have := List.mem_range.1 hx
    simp [inN]; omega
  have f2 : (List.range' I (J + 1 - I)).filter (fun x => !inN I J x) = [] := List.filter_eq_nil_iff.2 fun x hx => by
    have := List.mem_range'_1.1 hx
    simp [inN]; omega
  have f3 : (List.range' (J + 1) (n - (J + 1))).filter (fun x => !inN I J x) = List.range' (J + 1) (n - (J + 1)) := List.filter_eq_self.2 fun x hx => by
    have := List.mem_range'_1.1 hx
    simp [inN]; omega
  rw [f1, f2, f3]
  rfl
theorem filt_in {n : Nat} (h : I ≤ J) (hn : J < n) : ((List.range n).filter fun x => !(!inN I J x)) = List.range' I (J + 1 - I) := by
  have e : List.range n = List.range I ++ (List.range' I (J + 1 - I) ++ List.range' (J + 1) (n - (J + 1))) := by
    rw [List.range_eq_range', List.range_eq_range']
    have e1 := List.range'_append (s := I) (m := J + 1 - I) (n := n - (J + 1)) (step := 1)
    rw [show I + 1 * (J + 1 - I) = J + 1 by omega] at e1
    rw [e1]
    have e2 := List.range'_append (s := 0) (m := I) (n := J + 1 - I + (n - (J + 1))) (step := 1)
    rw [show 0 + 1 * I = I by omega] at e2
    rw [e2]
    congr 1
    omega
  rw [e, List.filter_append, List.filter_append]
  have f1 : (List.range I).filter (fun x => !(!inN I J x)) = [] := List.filter_eq_nil_iff.2 fun x hx => by
    have := List.mem_range.1 hx
    simp [inN]; omega
  have f2 : (List.range' I (J + 1 - I)).filter (fun x => !(!inN I J x)) = List.range' I (J + 1 - I) := List.filter_eq_self.2 fun x hx => by
    have := List.mem_range'_1.1 hx
    simp [inN]; omega
  have f3 : (List.range' (J + 1) (n - (J + 1))).filter (fun x => !(!inN I J x)) = [] := List.filter_eq_nil_iff.2 fun x hx => by
    have := List.mem_range'_1.1 hx
    simp [inN]; omega
  rw [f1, f2, f3]
  simp
def dn (I J : Nat) (z : Int) : Int := if (J : Int) < z then z - (J - I + 1) else z
def outL (p : List Int) (I J : Nat) : List Int := ((List.range p.length).filter fun x => !inN I J x).map fun x : Nat => dn I J (gat 0 p (x : Int))
theorem outer_L (hIJ : I ≤ J) (hJ : J < p.length) (hl : p.length ≤ 1000) (hr : Joint p) : ∀ (d k n : Nat) (l : List Int), k + d = p.length → d < n → l.length + d ≤ 100000 →
    F_spec_siOuter_L1 fu (I : Int) (J : Int) p (p.length : Int) n l (k : Int) = some (l ++ ((List.range' k d).filter fun x => !inN I J x).map (fun x : Nat => dn I J (gat 0 p (x : Int))), (p.length : Int)) := by
  intro d
  induction d with
  | zero =>
    intro k n l hk hn hll
    cases n with
    | zero => omega
    | succ n =>
      simp only [F_spec_siOuter_L1]
      rw [ilt_f (by omega), cond_false]
      simp; omega
  | succ d ih =>
    intro k n l hk hn hll
    cases n with
    | zero => omega
    | succ n =>
      have hk' : k < p.length := by omega
      obtain ⟨r1, r2, r3⟩ := hr k hk'
      simp only [F_spec_siOuter_L1, l1In_eq, bd_of]
      rw [ilt_t (by omega), cond_true, gd_t (inL_nat (by omega)), iadd_id (a := (k : Int)) (by omega) (by omega), show ((k : Int) + 1) = ((k + 1 : Nat) : Int) by omega, List.range'_succ]
      cases h : inN I J k
      · have h' : (decide ((I : Int) ≤ (k : Int)) && decide ((k : Int) ≤ (J : Int))) = false := by
          simp [inN] at h ⊢; omega
        rw [h', cond_false]
        have e : (bif ilt (J : Int) (gat 0 p (k : Int)) then some (isub .i64 (gat 0 p (k : Int)) (iadd .i64 (isub .i64 (J : Int) (I : Int)) 1)) else some (gat 0 p (k : Int))) = some (dn I J (gat 0 p (k : Int))) := by
          unfold dn
          by_cases c : (J : Int) < gat 0 p (k : Int)
          · rw [ilt_t c, cond_true, if_pos c, isub_id (a := (J : Int)) (by omega) (by omega), iadd_id (by omega) (by omega), isub_id (by omega) (by omega)]
          · rw [ilt_f c, cond_false, if_neg c]
        rw [e, bd_of, gd_t (by simp; omega), ih (k + 1) n _ (by omega) (by omega) (by simp [lapp]; omega), List.filter_cons_of_pos (by simp [h])]
        simp [lapp]
      · have h' : (decide ((I : Int) ≤ (k : Int)) && decide ((k : Int) ≤ (J : Int))) = true := by
          simp [inN] at h ⊢; omega
        rw [h', cond_true, ih (k + 1) n _ (by omega) (by omega) (by omega), List.filter_cons_of_neg (by simp [h])]
theorem outer_eq (hIJ : I ≤ J) (hJ : J < p.length) (hl : p.length ≤ 1000) (hf : 2000 < fu) (hr : Joint p) : F_spec_siOuter fu p (I : Int) (J : Int) = some (outL p I J) := by
  have h := outer_L (fu := fu) hIJ hJ hl hr p.length 0 fu [] (by omega) (by omega) (by simp; omega)
  rw [Int.natCast_zero] at h
  unfold F_spec_siOuter
  simp only [llen]
  rw [h, bd_of]
  simp [outL, List.range_eq_range']
theorem out_of (hs : Shut p I J) (hr : Joint p) {x : Nat} (hx : x < p.length) (ho : inN I J x = false) : ¬ ((I : Int) ≤ gat 0 p (x : Int) ∧ gat 0 p (x : Int) ≤ (J : Int)) := by
  rintro ⟨h1, h2⟩
  have := hs _ h1 h2
  rw [(hr x hx).2.2] at this
  simp [inN] at ho
  omega
theorem woL_out (hIJ : I ≤ J) (hJ : J < p.length) (hs : Shut p I J) (hr : Joint p) : woL p (inN I J) = outL p I J := by
  unfold woL outL
  refine List.map_congr_left fun x hx => ?_
  obtain ⟨h3, h4⟩ := List.mem_filter.1 hx
  have h3 := List.mem_range.1 h3
  have h4 : inN I J x = false := by simpa using h4
  have h5 := out_of hs hr h3 h4
  obtain ⟨r1, r2, r3⟩ := hr x h3
  rw [kept_out hIJ]
  unfold dn
  split <;> split <;> (try split) <;> omega
theorem outL_split (hIJ : I ≤ J) (hJ : J < p.length) : outL p I J = (List.range I).map (fun x : Nat => dn I J (gat 0 p (x : Int))) ++ (List.range' (J + 1) (p.length - (J + 1))).map (fun x : Nat => dn I J (gat 0 p (x : Int))) := by
  unfold outL
  rw [filt_out hIJ hJ, List.map_append]
theorem outL_len (hIJ : I ≤ J) (hJ : J < p.length) : (outL p I J).length = p.length - (J + 1 - I) := by
  rw [outL_split hIJ hJ]
  simp; omega
def up (I J : Nat) (k : Nat) : Nat := if k < I then k else k + (J + 1 - I)
theorem outL_get (hIJ : I ≤ J) (hJ : J < p.length) {k : Nat} (hk : k < p.length - (J + 1 - I)) : gat 0 (outL p I J) (k : Int) = dn I J (gat 0 p ((up I J k : Nat) : Int)) := by
  rw [gat_nat (by rw [outL_len hIJ hJ]; exact hk)]
  simp only [outL_split hIJ hJ]
  unfold up
  by_cases c : k < I
  · rw [List.getElem_append_left (by simpa using c), if_pos c]
    simp
  · rw [List.getElem_append_right (by simpa using c), if_neg c]
    simp only [List.length_map, List.length_range, List.getElem_map, List.getElem_range', Nat.one_mul]
    congr 3
    omega
theorem outL_inv (hIJ : I ≤ J) (hJ : J < p.length) (hs : Shut p I J) (hr : Joint p) : Joint (outL p I J) := by
  intro k hk
  rw [outL_len hIJ hJ] at hk
  have hu : up I J k < p.length := by unfold up; split <;> omega
  have ho : inN I J (up I J k) = false := by unfold up inN; split <;> simp <;> omega
  obtain ⟨r1, r2, r3⟩ := hr _ hu
  have h5 := out_of hs hr hu ho
  have e := outL_get (p := p) hIJ hJ hk
  have eb : 0 ≤ dn I J (gat 0 p ((up I J k : Nat) : Int)) ∧ dn I J (gat 0 p ((up I J k : Nat) : Int)) < ((p.length - (J + 1 - I) : Nat) : Int) := by
    unfold dn; split <;> omega
  refine ⟨by rw [e]; exact eb.1, by rw [e, outL_len hIJ hJ]; exact eb.2, ?_⟩
  rw [e]
  have e2 := outL_get (p := p) hIJ hJ (k := (dn I J (gat 0 p ((up I J k : Nat) : Int))).toNat) (by omega)
  rw [Int.toNat_of_nonneg eb.1] at e2
  rw [e2]
  have e3 : ((up I J (dn I J (gat 0 p ((up I J k : Nat) : Int))).toNat : Nat) : Int) = gat 0 p ((up I J k : Nat) : Int) := by
    generalize hz : gat 0 p ((up I J k : Nat) : Int) = z at *
    unfold up dn
    split <;> split <;> omega
  rw [e3, r3]
  unfold dn up
  split <;> split <;> omega
def innL (p : List Int) (I J : Nat) : List Int := (List.range' I (J + 1 - I)).map fun x : Nat => gat 0 p (x : Int) - (I : Int)
theorem woL_in (hIJ : I ≤ J) (hJ : J < p.length) (hs : Shut p I J) : woL p (fun x => !inN I J x) = innL p I J := by
  unfold woL innL
  rw [filt_in hIJ hJ]
  refine List.map_congr_left fun x hx => ?_
  have := List.mem_range'_1.1 hx
  obtain ⟨h1, h2⟩ := hs (x : Int) (by omega) (by omega)
  rw [kept_in hIJ]
  split <;> (try split) <;> omega
theorem inner_L {s : List Int} {w : List Int} (hs : s.length ≤ 1000) (hv : ∀ x ∈ s, 0 ≤ x ∧ x ≤ 1000) (hI : I ≤ 1000) : ∀ (d k n : Nat) (l : List Int), k + d = s.length → d < n → l.length + d ≤ 100000 →
    F_spec_siInner_L1 fu (I : Int) s w (s.length : Int) n l (k : Int) = some (l ++ (s.drop k).map (fun x => x - (I : Int)), (s.length : Int)) := by
  intro d
  induction d with
  | zero =>
    intro k n l hk hn hll
    cases n with
    | zero => omega
    | succ n =>
      simp only [F_spec_siInner_L1]
      rw [ilt_f (by omega), cond_false, List.drop_of_length_le (by omega)]
      simp; omega
  | succ d ih =>
    intro k n l hk hn hll
    cases n with
    | zero => omega
    | succ n =>
      have hk' : k < s.length := by omega
      have := hv _ (List.getElem_mem hk')
      simp only [F_spec_siInner_L1]
      rw [ilt_t (by omega), cond_true, gd_t (inL_nat hk'), gd_t (by simp; omega), gat_nat hk', isub_id (by omega) (by omega), iadd_id (by omega) (by omega), show ((k : Int) + 1) = ((k + 1 : Nat) : Int) by omega,
        ih (k + 1) n _ (by omega) (by omega) (by simp [lapp]; omega), List.drop_eq_getElem_cons hk', List.map_cons]
      simp only [lapp, List.append_assoc, List.singleton_append]
theorem inner_eq (hIJ : I ≤ J) (hJ : J < p.length) (hl : p.length ≤ 1000) (hf : 2000 < fu) (hr : Joint p) : F_spec_siInner fu p (I : Int) (J : Int) = some (innL p I J) := by
  have e0 : iadd .i64 (J : Int) 1 = ((J + 1 : Nat) : Int) := by rw [iadd_id (by omega) (by omega)]; omega
  have e1 : lsub p (I : Int) ((J + 1 : Nat) : Int) = (p.drop I).take (J + 1 - I) := rfl
  have hlen : ((p.drop I).take (J + 1 - I)).length = J + 1 - I := by simp; omega
  have hv : ∀ x ∈ (p.drop I).take (J + 1 - I), 0 ≤ x ∧ x ≤ 1000 := fun x hx => by
    obtain ⟨k, hk⟩ := List.getElem?_of_mem (List.mem_of_mem_drop (List.mem_of_mem_take hx))
    obtain ⟨h1, h2⟩ := List.getElem?_eq_some_iff.1 hk
    obtain ⟨r1, r2, _⟩ := hr k h1
    rw [gat_nat h1, h2] at r1 r2
    omega
  have h := inner_L (fu := fu) (w := p) (I := I) (by rw [hlen]; omega) hv (by omega) (J + 1 - I) 0 fu [] (by rw [hlen]; omega) (by omega) (by simp; omega)
  rw [Int.natCast_zero] at h
  unfold F_spec_siInner
  rw [e0, gd_t (subL_mk (by omega) (by omega) (by omega)), e1]
  simp only [llen]
  rw [h, bd_of]
  simp only [List.nil_append, List.drop_zero, Option.some.injEq]
  unfold innL
  apply List.ext_getElem
  · simp; omega
  · intro k h1 h2
    simp at h1 h2
    simp only [List.getElem_map, List.getElem_take, List.getElem_drop, List.getElem_range', Nat.one_mul]
    rw [gat_nat (by omega)]
theorem innL_len (hIJ : I ≤ J) : (innL p I J).length = J + 1 - I := by simp [innL]
theorem kept_fn {x1 : Int → Option Bool} {g : Nat → Bool} {n : Nat} (h : ∀ k : Nat, k < n → x1 (k : Int) = some (!g k)) : ∀ k : Nat, k < n → F_impl_Meander_kept_1 fu (k : Int) x1 = some (g k) := fun k hk => by
  unfold F_impl_Meander_kept_1
  rw [h k hk, bd_of]
  simp [bnot]
theorem outside_eq (hIJ : I ≤ J) (hJ : J < p.length) (hpq : p.length = q.length) (hl : p.length ≤ 1000) (hf : 2000 < fu) (hs : Shut p I J) (hr : Joint p) (ht : Shut q I J) (hu : Joint q) :
    F_impl_Meander_outside fu p q (I : Int) (J : Int) = some (outL p I J, outL q I J) ∧ F_spec_siOutside fu p q (I : Int) (J : Int) = some (outL p I J, outL q I J) := by
  have hin : ∀ k : Nat, F_impl_Meander_outside_1 fu (k : Int) (I : Int) (J : Int) = some (!inN I J k) := fun k => by
    unfold F_impl_Meander_outside_1
    rw [in_eq, bd_of]
    simp only [bnot, inN, Option.some.injEq]
    congr 1
    rw [Bool.eq_iff_iff]
    simp
  constructor
  · unfold F_impl_Meander_outside F_impl_Meander_kept
    rw [without_eq (g := inN I J) hl hf (kept_fn fun k _ => hin k) (fun k hk _ => ⟨(hr k hk).1, (hr k hk).2.1⟩), without_eq (g := inN I J) (by omega) hf (kept_fn fun k _ => hin k) (fun k hk _ => ⟨(hu k hk).1, (hu k hk).2.1⟩),
      woL_out hIJ hJ hs hr, woL_out hIJ (by omega) ht hu]
    rfl
  · unfold F_spec_siOutside
    rw [outer_eq hIJ hJ hl hf hr, outer_eq hIJ (by omega) (by omega) hf hu]
    rfl
theorem inside_eq (hIJ : I ≤ J) (hJ : J < p.length) (hpq : p.length = q.length) (hl : p.length ≤ 1000) (hf : 2000 < fu) (hs : Shut p I J) (hr : Joint p) (ht : Shut q I J) (hu : Joint q) :
    F_impl_Meander_inside fu p q (I : Int) (J : Int) = some (innL p I J, innL q I J) ∧ F_spec_siInside fu p q (I : Int) (J : Int) = some (innL p I J, innL q I J) := by
  have hin : ∀ k : Nat, F_impl_Meander_inside_1 fu (k : Int) (I : Int) (J : Int) = some (!(!inN I J k)) := fun k => by
    unfold F_impl_Meander_inside_1
    rw [in_eq, bd_of]
    simp only [inN, Option.some.injEq, Bool.not_not]
    rw [Bool.eq_iff_iff]
    simp
  constructor
  · unfold F_impl_Meander_inside F_impl_Meander_kept
    rw [without_eq (g := fun x => !inN I J x) hl hf (kept_fn fun k _ => hin k) (fun k hk _ => ⟨(hr k hk).1, (hr k hk).2.1⟩), without_eq (g := fun x => !inN I J x) (by omega) hf (kept_fn fun k _ => hin k) (fun k hk _ => ⟨(hu k hk).1, (hu k hk).2.1⟩),
      woL_in hIJ hJ hs, woL_in hIJ (by omega) ht]
    rfl
  · unfold F_spec_siInside
    rw [inner_eq hIJ hJ hl hf hr, inner_eq hIJ (by omega) (by omega) hf hu]
    rfl
theorem woL_all (hr : Joint p) : woL p (fun _ => false) = p := by
  unfold woL
  have e : ((List.range p.length).filter fun x => !(fun _ : Nat => false) x) = List.range p.length := List.filter_eq_self.2 fun x hx => rfl
  rw [e]
  apply List.ext_getElem
  · simp
  · intro k h1 h2
    simp only [List.getElem_map, List.getElem_range, kept_all]
    rw [Int.toNat_of_nonneg (hr k h2).1, gat_nat h2]
theorem whole_eq (hpq : p.length = q.length) (hl : p.length ≤ 1000) (hf : 2000 < fu) (hr : Joint p) (hu : Joint q) :
    F_impl_Meander_kept fu p q (fun y0 => F_impl_Meander_pieces_1 fu y0) = some (p, q) ∧ F_spec_l1Own fu p = some p ∧ F_spec_l1Own fu q = some q := by
  have own : ∀ x : List Int, x.length ≤ 1000 → F_spec_l1Own fu x = some x := fun x hx => by
    unfold F_spec_l1Own
    rw [gd_t (by simp; omega)]
    simp [lapp]
  refine ⟨?_, own p hl, own q (by omega)⟩
  have hin : ∀ k : Nat, (fun y0 => F_impl_Meander_pieces_1 fu y0) (k : Int) = some (!(fun _ : Nat => false) k) := fun k => rfl
  unfold F_impl_Meander_kept
  rw [without_eq (g := fun _ => false) hl hf (kept_fn fun k _ => hin k) (fun k hk _ => ⟨(hr k hk).1, (hr k hk).2.1⟩), without_eq (g := fun _ => false) (by omega) hf (kept_fn fun k _ => hin k) (fun k hk _ => ⟨(hu k hk).1, (hu k hk).2.1⟩),
    woL_all hr, woL_all hu]
  rfl
end
end Go.Proofs.Ytbckijeffiofdaa.AL
