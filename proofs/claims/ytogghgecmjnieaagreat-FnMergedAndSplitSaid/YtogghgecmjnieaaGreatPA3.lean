/- Systems: what the program's check and the reference's answer. No condition. -/
import Derived.Test.YtogghgecmjnieaaGreatPA1
import Derived.Test.YtogghgecmjnieaaGreatQArch
namespace Go.Proofs.YtogghgecmjnieaaGreat.AL
open Go Go.Proofs.YtogghgecmjnieaaGreat.Arch
set_option linter.unusedVariables false
set_option linter.unusedSimpArgs false
theorem ArcS.lo' {p : List Int} (s : ArcS p) (i : Int) (h0 : 0 ≤ i) (h1 : i < p.length) : 0 ≤ gat 0 p i := s.lo i h0 h1
theorem ArcS.hi' {p : List Int} (s : ArcS p) (i : Int) (h0 : 0 ≤ i) (h1 : i < p.length) : gat 0 p i < p.length := s.hi i h0 h1
theorem ArcS.ne' {p : List Int} (s : ArcS p) (i : Int) (h0 : 0 ≤ i) (h1 : i < p.length) : gat 0 p i ≠ i := s.ne i h0 h1
theorem ArcS.inv' {p : List Int} (s : ArcS p) (i : Int) (h0 : 0 ≤ i) (h1 : i < p.length) : gat 0 p (gat 0 p i) = i := s.inv i h0 h1
theorem ArcS.cr' {p : List Int} (s : ArcS p) (a b : Int) (h0 : 0 ≤ a) (h1 : a < p.length) (h2 : a < b) (h3 : b < gat 0 p a) : a ≤ gat 0 p b ∧ gat 0 p b ≤ gat 0 p a := ArcS.cr s a b h0 h1 h2 h3
theorem ok_succ {p : List Int} {d : Nat} {i : Int} {O : List Int} : okFrom p (d + 1) i O = if gat 0 p i > i ∧ gat 0 p (gat 0 p i) = i then okFrom p d (i + 1) (i :: O)
  else if gat 0 p i < i then
   match O with
   | [] => false
   | j :: O' => if j = gat 0 p i then okFrom p d (i + 1) O' else false
  else false := rfl
theorem range_of_all {p : List Int} (h : p.all (fun x => decide (0 ≤ x) && decide (x < p.length)) = true) : ∀ i : Int, 0 ≤ i → i < p.length → 0 ≤ gat 0 p i ∧ gat 0 p i < p.length := by
 intro i h0 h1
 rw [List.all_eq_true] at h
 have hm : gat 0 p i ∈ p := by
  rw [gat_eq]
  rw [List.getD_eq_getElem?_getD, List.getElem?_eq_getElem (by omega : i.toNat < p.length)]
  exact List.getElem_mem _
 have := h _ hm
 simpa using this
theorem all_of_range {p : List Int} (h : ∀ i : Int, 0 ≤ i → i < p.length → 0 ≤ gat 0 p i ∧ gat 0 p i < p.length) : p.all (fun x => decide (0 ≤ x) && decide (x < p.length)) = true := by
 rw [List.all_eq_true]
 intro x hx
 obtain ⟨j, hj, rfl⟩ := List.getElem_of_mem hx
 have := h j (by omega) (by omega)
 rw [gat_eq] at this
 rw [List.getD_eq_getElem?_getD, List.getElem?_eq_getElem (by omega : (j : Int).toNat < p.length)] at this
 simpa using this
def arcB (p : List Int) : Bool := decide (p.length % 2 = 0) && (p.all (fun x => decide (0 ≤ x) && decide (x < p.length)) && okFrom p p.length 0 [])
theorem arcB_iff (p : List Int) : arcB p = true ↔ ArcS p := by
 unfold arcB
 simp only [Bool.and_eq_true, decide_eq_true_eq]
 constructor
 ·rintro ⟨h2, h3, h4⟩
  exact sys_of_ok (range_of_all h3) h4
 ·intro h
  exact ⟨even_of_sys h, all_of_range (fun i h0 h1 => ⟨h.lo i h0 h1, h.hi i h0 h1⟩), ok_of_sys h p.length 0 (by omega)⟩
def sysB (p : List Int) : Bool := decide (p.length ≤ 12) && arcB p
theorem arcB_no {p : List Int} (h : ¬ ArcS p) : arcB p = false := by
 rw [Bool.eq_false_iff]
 exact fun q => h ((arcB_iff p).1 q)
def Inv1 (p : List Int) (n : Int) : Prop := ∀ i : Int, 0 ≤ i → i < n → 0 ≤ gat 0 p i ∧ gat 0 p i < p.length ∧ gat 0 p i ≠ i ∧ gat 0 p (gat 0 p i) = i
def Inv2 (p : List Int) (n : Int) : Prop := ∀ a b : Int, 0 ≤ a → a < n → a < b → b < gat 0 p a → a ≤ gat 0 p b ∧ gat 0 p b ≤ gat 0 p a
section
variable {fu : Nat} {p : List Int}
theorem in_eq (a b c : Int) : F_impl_in fu a b c = some (decide (b ≤ a) && decide (a ≤ c)) := by
 unfold F_impl_in
 rw [ile_eq, ile_eq]
 cases decide (b ≤ a) <;> rfl
theorem l1In_eq (a b c : Int) : F_spec_l1In fu a b c = some (decide (b ≤ a) && decide (a ≤ c)) := by
 unfold F_spec_l1In
 rw [ile_eq, ile_eq]
 cases decide (b ≤ a) <;> rfl
theorem isSystem_L1 (hx : p.length ≤ 4294967296) : ∀ (d k n : Nat), k + d = p.length → d < n → Inv1 p k →
  (F_impl_isSystem_L1 fu p (p.length : Int) n (k : Int) = some (.brk (p.length : Int)) ∧ Inv1 p p.length) ∨ (F_impl_isSystem_L1 fu p (p.length : Int) n (k : Int) = some (.ret false) ∧ ¬ ArcS p) := by
 intro d
 induction d with
 | zero =>
  intro k n hk hn hI
  cases n with
  | zero => omega
  | succ n =>
   have : k = p.length := by omega
   subst this
   refine .inl ⟨?_, hI⟩
   simp only [F_impl_isSystem_L1]
   rw [ilt_f (by omega), cond_false]
 | succ d ih =>
  intro k n hk hn hI
  cases n with
  | zero => omega
  | succ n =>
   simp only [F_impl_isSystem_L1, llen]
   rw [ilt_t (by omega), cond_true, gd_t (inL_nat (by omega)), isub_id (by omega) (by omega), in_eq, bd_of]
   by_cases c1 : 0 ≤ gat 0 p k ∧ gat 0 p k ≤ (p.length : Int) - 1
   ·have e1 : (decide (0 ≤ gat 0 p k) && decide (gat 0 p k ≤ (p.length : Int) - 1)) = true := by simp; omega
    rw [e1, show bnot true = false from rfl, cond_false]
    by_cases c2 : gat 0 p k = k
    ·refine .inr ⟨?_, fun s => ArcS.ne' s k (by omega) (by omega) c2⟩
     rw [ieq_t c2, cond_true, bd_of, cond_true]
    ·rw [ieq_f c2, cond_false, gd_t (inL_mk c1.1 (by omega)), bd_of]
     by_cases c3 : gat 0 p (gat 0 p k) = k
     ·rw [ine_f c3, cond_false, iadd_id (by omega) (by omega)]
      refine ih (k + 1) n (by omega) (by omega) fun i h0 h1 => ?_
      by_cases e : i = k
      ·subst e; exact ⟨c1.1, by omega, c2, c3⟩
      ·exact hI i h0 (by omega)
     ·refine .inr ⟨?_, fun s => c3 (ArcS.inv' s k (by omega) (by omega))⟩
      rw [ine_t c3, cond_true]
   ·have e1 : (decide (0 ≤ gat 0 p k) && decide (gat 0 p k ≤ (p.length : Int) - 1)) = false := by
     rw [Bool.eq_false_iff]; simp; omega
    refine .inr ⟨?_, fun s => c1 ⟨ArcS.lo' s k (by omega) (by omega), by have := ArcS.hi' s k (by omega) (by omega); omega⟩⟩
    rw [e1, show bnot false = true from rfl, cond_true, bd_of, cond_true]
theorem isSystem_L3 (hx : p.length ≤ 4294967296) (hI : Inv1 p p.length) {a : Int} (ha0 : 0 ≤ a) (ha1 : a < p.length) (kl : Int) : ∀ (d n : Nat) (b : Int), (gat 0 p a - b).toNat ≤ d → d < n → a < b → (∀ c, a < c → c < b → c < gat 0 p a → a ≤ gat 0 p c ∧ gat 0 p c ≤ gat 0 p a) →
  ((∃ y, F_impl_isSystem_L3 fu p a (gat 0 p a) kl n b = some (.brk y)) ∧ ∀ c, a < c → c < gat 0 p a → a ≤ gat 0 p c ∧ gat 0 p c ≤ gat 0 p a) ∨ (F_impl_isSystem_L3 fu p a (gat 0 p a) kl n b = some (.ret (.ret false)) ∧ ¬ ArcS p) := by
 have hga := hI a ha0 ha1
 intro d
 induction d with
 | zero =>
  intro n b hd hn hb hall
  cases n with
  | zero => omega
  | succ n =>
   refine .inl ⟨⟨b, ?_⟩, fun c h1 h2 => hall c h1 (by omega) h2⟩
   simp only [F_impl_isSystem_L3]
   rw [ilt_f (by omega), cond_false]
 | succ d ih =>
  intro n b hd hn hb hall
  cases n with
  | zero => omega
  | succ n =>
   simp only [F_impl_isSystem_L3]
   by_cases hlt : b < gat 0 p a
   ·rw [ilt_t hlt, cond_true, gd_t (inL_mk (by omega) (by omega)), in_eq, bd_of]
    by_cases c : a ≤ gat 0 p b ∧ gat 0 p b ≤ gat 0 p a
    ·have e1 : (decide (a ≤ gat 0 p b) && decide (gat 0 p b ≤ gat 0 p a)) = true := by simp; omega
     rw [e1, show bnot true = false from rfl, cond_false, iadd_id (by omega) (by omega)]
     refine ih n (b + 1) (by omega) (by omega) (by omega) fun x h1 h2 h3 => ?_
     by_cases e : x = b
     ·subst e; exact c
     ·exact hall x h1 (by omega) h3
    ·have e1 : (decide (a ≤ gat 0 p b) && decide (gat 0 p b ≤ gat 0 p a)) = false := by
      rw [Bool.eq_false_iff]; simp; omega
     refine .inr ⟨?_, fun s => c (ArcS.cr' s a b ha0 ha1 (by omega) hlt)⟩
     rw [e1, show bnot false = true from rfl, cond_true]
   ·refine .inl ⟨⟨b, ?_⟩, fun c h1 h2 => hall c h1 (by omega) h2⟩
    rw [ilt_f hlt, cond_false]
theorem isSystem_L2 (hx : p.length ≤ 4294967296) (hf : p.length < fu) (hI : Inv1 p p.length) : ∀ (d k n : Nat), k + d = p.length → d < n → Inv2 p k →
  (F_impl_isSystem_L2 fu p (p.length : Int) n (k : Int) = some (.brk (p.length : Int)) ∧ Inv2 p p.length) ∨ (F_impl_isSystem_L2 fu p (p.length : Int) n (k : Int) = some (.ret false) ∧ ¬ ArcS p) := by
 intro d
 induction d with
 | zero =>
  intro k n hk hn h2
  cases n with
  | zero => omega
  | succ n =>
   have : k = p.length := by omega
   subst this
   refine .inl ⟨?_, h2⟩
   simp only [F_impl_isSystem_L2]
   rw [ilt_f (by omega), cond_false]
 | succ d ih =>
  intro k n hk hn h2
  cases n with
  | zero => omega
  | succ n =>
   have hg := hI k (by omega) (by omega)
   simp only [F_impl_isSystem_L2]
   rw [ilt_t (by omega), cond_true, gd_t (inL_nat (by omega)), iadd_id (by omega) (by omega)]
   rcases isSystem_L3 (fu := fu) hx hI (a := (k : Int)) (by omega) (by omega) (p.length : Int) p.length fu ((k : Int) + 1) (by omega) hf (by omega) (fun c h1 h2 => by omega) with ⟨⟨y, e⟩, hall⟩ | ⟨e, hn'⟩
   ·rw [e, bd_of]
    simp only [lr]
    refine ih (k + 1) n (by omega) (by omega) fun a b h0 h1 h3 h4 => ?_
    by_cases e : a = k
    ·subst e; exact hall b h3 h4
    ·exact h2 a b h0 (by omega) h3 h4
   ·refine .inr ⟨?_, hn'⟩
    rw [e, bd_of]
    rfl
theorem isSystem_eq (hx : p.length ≤ 4294967296) (hf : p.length < fu) : F_impl_isSystem fu p = some (arcB p) := by
 unfold F_impl_isSystem
 simp only [llen]
 rcases isSystem_L1 (fu := fu) hx p.length 0 fu (by omega) hf (fun i h0 h1 => by omega) with ⟨e, hI⟩ | ⟨e, hn⟩
 ·rw [Int.natCast_zero] at e
  rw [e, bd_of]
  simp only [lr]
  rcases isSystem_L2 (fu := fu) hx hf hI p.length 0 fu (by omega) hf (fun a b h0 h1 => by omega) with ⟨e2, h2⟩ | ⟨e2, hn⟩
  ·rw [Int.natCast_zero] at e2
   rw [e2, bd_of]
   simp only [lr]
   have : ArcS p := ⟨fun i h0 h1 => (hI i h0 h1).1, fun i h0 h1 => (hI i h0 h1).2.1, fun i h0 h1 => (hI i h0 h1).2.2.1, fun i h0 h1 => (hI i h0 h1).2.2.2, h2⟩
   rw [(arcB_iff p).2 this]
  ·rw [Int.natCast_zero] at e2
   rw [e2, bd_of, arcB_no hn]
   try rfl
 ·rw [Int.natCast_zero] at e
  rw [e, bd_of, arcB_no hn]
  rfl
theorem IsSystem_eq (hx : p.length ≤ 4294967296) (hf : p.length < fu) : F_impl_IsSystem fu p = some (sysB p) := by
 unfold F_impl_IsSystem sysB
 simp only [llen]
 by_cases h : p.length ≤ 12
 ·rw [ile_t (by omega), cond_true, isSystem_eq hx hf, bd_of]; simp [h]
 ·rw [ile_f (by omega), cond_false]; simp [h]
theorem l1All_L {lo hi : Int} (hx : p.length ≤ 4294967296) : ∀ (d k n : Nat), k + d = p.length → d < n →
  F_spec_l1All_L1 fu lo hi p (p.length : Int) n (k : Int) = some (if (p.drop k).all (fun x => decide (lo ≤ x) && decide (x ≤ hi)) then .brk (p.length : Int) else .ret false) := by
 intro d
 induction d with
 | zero =>
  intro k n hk hn
  cases n with
  | zero => omega
  | succ n =>
   have : k = p.length := by omega
   subst this
   simp only [F_spec_l1All_L1]
   rw [ilt_f (by omega), cond_false]
   simp
 | succ d ih =>
  intro k n hk hn
  cases n with
  | zero => omega
  | succ n =>
   simp only [F_spec_l1All_L1]
   rw [ilt_t (by omega), cond_true, gd_t (inL_nat (by omega)), l1In_eq, bd_of, gat_nat (by omega), List.drop_eq_getElem_cons (by omega : k < p.length), List.all_cons]
   cases h : (decide (lo ≤ p[k]) && decide (p[k] ≤ hi))
   ·simp [bnot]
   ·rw [show bnot true = false from rfl, cond_false, iadd_id (by omega) (by omega)]
    have := ih (k + 1) n (by omega) (by omega)
    simpa using this
theorem l1All_eq {lo hi : Int} (hx : p.length ≤ 4294967296) (hf : p.length < fu) : F_spec_l1All fu p lo hi = some (p.all fun x => decide (lo ≤ x) && decide (x ≤ hi)) := by
 unfold F_spec_l1All
 have := l1All_L (fu := fu) (lo := lo) (hi := hi) hx p.length 0 fu (by omega) hf
 rw [Int.natCast_zero, List.drop_zero] at this
 simp only [llen]
 rw [this, bd_of]
 cases (p.all fun x => decide (lo ≤ x) && decide (x ≤ hi)) <;> rfl
theorem ahGood_L (hx : p.length ≤ 12) (hr : ∀ i : Int, 0 ≤ i → i < p.length → 0 ≤ gat 0 p i ∧ gat 0 p i < p.length) : ∀ (d k n : Nat) (O : List Int), k + d = p.length → d < n → O.length ≤ k →
  (okFrom p d k O = true → ∃ O', F_spec_ahGood_L1 fu p (p.length : Int) n O (k : Int) = some (.brk (O', (p.length : Int)))) ∧ (okFrom p d k O = false → F_spec_ahGood_L1 fu p (p.length : Int) n O (k : Int) = some (.ret false)) := by
 intro d
 induction d with
 | zero =>
  intro k n O hk hn hO
  cases n with
  | zero => omega
  | succ n =>
   have : k = p.length := by omega
   subst this
   refine ⟨fun _ => ⟨O, ?_⟩, fun h => (by cases h)⟩
   simp only [F_spec_ahGood_L1]
   rw [ilt_f (by omega), cond_false]
 | succ d ih =>
  intro k n O hk hn hO
  cases n with
  | zero => omega
  | succ n =>
   have hk' := hr k (by omega) (by omega)
   simp only [F_spec_ahGood_L1]
   rw [ilt_t (by omega), cond_true, gd_t (inL_nat (by omega))]
   rw [ok_succ]
   by_cases c1 : gat 0 p k > k
   ·rw [ilt_t (by omega : (k : Int) < gat 0 p k), cond_true, gd_t (inL_mk hk'.1 hk'.2), bd_of]
    by_cases c2 : gat 0 p (gat 0 p k) = k
    ·rw [ieq_t c2, cond_true, gd_t (by simp; omega), iadd_id (by omega) (by omega), if_pos ⟨c1, c2⟩]
     exact ih (k + 1) n ((k : Int) :: O) (by omega) (by omega) (by simp; omega)
    ·rw [ieq_f c2, cond_false, ilt_f (by omega), cond_false, bd_of, cond_false, if_neg (fun q => c2 q.2), if_neg (by omega)]
     exact ⟨fun h => (by cases h), fun _ => rfl⟩
   ·rw [ilt_f (by omega : ¬ (k : Int) < gat 0 p k), cond_false, bd_of, cond_false, if_neg (fun q => c1 q.1)]
    by_cases c3 : gat 0 p k < k
    ·rw [ilt_t c3, cond_true, if_pos c3]
     cases O with
     | nil =>
      rw [ilt_f (by simp [llen]), cond_false, bd_of, cond_false]
      exact ⟨fun h => (by cases h), fun _ => rfl⟩
     | cons j O =>
      rw [ilt_t (by simp only [llen, List.length_cons]; omega), cond_true, gd_t (inL_mk (by omega) (by simp)), bd_of, show gat 0 (j :: O) 0 = j from rfl]
      by_cases c4 : j = gat 0 p k
      ·rw [ieq_t c4, cond_true, gd_t (by simp [subL, llen]; omega), iadd_id (by omega) (by omega)]
       simp only [if_pos c4]
       have e : lsub (j :: O) 1 (llen (j :: O)) = O := by simp [lsub, llen]
       rw [e]
       exact ih (k + 1) n O (by omega) (by omega) (by simp at hO; omega)
      ·rw [ieq_f c4, cond_false]
       simp only [if_neg c4]
       exact ⟨fun h => (by cases h), fun _ => trivial⟩
    ·rw [ilt_f c3, cond_false, bd_of, cond_false, if_neg c3]
     exact ⟨fun h => (by cases h), fun _ => rfl⟩
theorem ahGood_eq (hx : p.length ≤ 4294967296) (hf : p.length < fu) : F_spec_ahGood fu p = some (sysB p) := by
 unfold F_spec_ahGood
 simp only [llen]
 have hm : irem (p.length : Int) 2 = ((p.length % 2 : Nat) : Int) := by unfold irem; rw [Int.tmod_eq_emod_of_nonneg (by omega)]; omega
 rw [hm]
 by_cases par : p.length % 2 = 1
 ·rw [ieq_t (by omega), cond_true, bd_of, cond_true]
  simp [sysB, arcB, par]
 ·rw [ieq_f (by omega), cond_false]
  by_cases big : p.length ≤ 12
  ·rw [ilt_f (by omega), cond_false, isub_id (by omega) (by omega), l1All_eq hx hf, bd_of, bd_of]
   have e : (p.all fun x => decide (0 ≤ x) && decide (x ≤ (p.length : Int) - 1)) = (p.all fun x => decide (0 ≤ x) && decide (x < (p.length : Int))) := by
    congr 1
    funext x
    congr 1
    rw [decide_eq_decide]
    omega
   rw [e]
   cases h : (p.all fun x => decide (0 ≤ x) && decide (x < (p.length : Int)))
   ·rw [show bnot false = true from rfl, cond_true]
    simp [sysB, arcB, h]
   ·rw [show bnot true = false from rfl, cond_false]
    have hfin : sysB p = okFrom p p.length 0 [] := by
     have : p.length % 2 = 0 := by omega
     simp only [sysB, arcB, big, this, h]; simp
    obtain ⟨g1, g2⟩ := ahGood_L (fu := fu) big (range_of_all h) p.length 0 fu [] (by omega) hf (by simp)
    rw [Int.natCast_zero] at g1 g2
    cases ho : okFrom p p.length 0 []
    ·rw [g2 ho, bd_of, hfin, ho]; rfl
    ·obtain ⟨O', e⟩ := g1 ho
     rw [e, bd_of, hfin, ho]; rfl
  ·rw [ilt_t (by omega), cond_true, bd_of, cond_true]
   simp [sysB, big]
end
end Go.Proofs.YtogghgecmjnieaaGreat.AL
