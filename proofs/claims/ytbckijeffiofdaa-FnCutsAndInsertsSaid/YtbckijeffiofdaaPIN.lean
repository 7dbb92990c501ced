/- A system put into another one: the program's and the reference's are one. No condition. -/
import Derived.Test.YtbckijeffiofdaaPDR
import Derived.Test.YtbckijeffiofdaaG1
import Derived.Test.YtbckijeffiofdaaG2
import Derived.Test.YtbckijeffiofdaaG3
import Derived.Test.YtbckijeffiofdaaG4
import Derived.Test.YtbckijeffiofdaaG5
import Derived.Test.YtbckijeffiofdaaG6
import Derived.Test.YtbckijeffiofdaaG7
import Derived.Test.YtbckijeffiofdaaG8
import Derived.Test.YtbckijeffiofdaaG9
import Derived.Test.YtbckijeffiofdaaG10
import Derived.Test.YtbckijeffiofdaaG11
import Derived.Test.YtbckijeffiofdaaG12
import Derived.Test.YtbckijeffiofdaaG13
import Derived.Test.YtbckijeffiofdaaG14
import Derived.Test.YtbckijeffiofdaaG15
import Derived.Test.YtbckijeffiofdaaG16
import Derived.KernelRfl
namespace Go.Proofs.Ytbckijeffiofdaa.AL
open Go Go.Proofs.Ytbckijeffiofdaa.Arch
set_option linter.unusedVariables false
set_option linter.unusedSimpArgs false
set_option maxRecDepth 100000
def insV (k m : Nat) (x : Int) : Int := if (k : Int) ≤ x then x + m else x
def insN (k m x : Nat) : Nat := if k ≤ x then x + m else x
def putZ (p : List Int) (k : Nat) (q : List Int) : List Int := (p.take k).map (insV k q.length) ++ q.map (fun x => x + (k : Int)) ++ (p.drop k).map (insV k q.length)
def Low (p : List Int) : Prop := ∀ x ∈ p, 0 ≤ x ∧ x ≤ 1000
section
variable {fu : Nat} {p q : List Int} {k : Nat}
theorem putZ_len (h : k ≤ p.length) : (putZ p k q).length = p.length + q.length := by simp [putZ]; omega
theorem lowGat (h : Low p) {j : Nat} (hj : j < p.length) : 0 ≤ gat 0 p (j : Int) ∧ gat 0 p (j : Int) ≤ 1000 := by
  rw [gat_nat hj]
  exact h _ (List.getElem_mem hj)
theorem put_L2 (hp : p.length ≤ 100) (hq : q.length ≤ 100) (hk : k ≤ 100) (hv : Low q) {j : Int} : ∀ (d y m : Nat) (l : List Int), y + d = q.length → d < m → l.length ≤ 1000 → l.length + d ≤ 1000 →
    F_spec_siPut_L2 fu p (k : Int) q j (q.length : Int) m l (y : Int) = some (l ++ (q.drop y).map (fun x => x + (k : Int)), (q.length : Int)) := by
  intro d
  induction d with
  | zero =>
    intro y m l hy hm hl hl2
    cases m with
    | zero => omega
    | succ m =>
      simp only [F_spec_siPut_L2]
      rw [ilt_f (by omega), cond_false, List.drop_eq_nil_of_le (by omega)]
      simp
      omega
  | succ d ih =>
    intro y m l hy hm hl hl2
    cases m with
    | zero => omega
    | succ m =>
      have hy' : y < q.length := by omega
      obtain ⟨v0, v1⟩ := lowGat hv hy'
      simp only [F_spec_siPut_L2]
      rw [ilt_t (by omega), cond_true, gd_t (inL_nat hy'), gd_t (by simp; omega), iadd_id (a := gat 0 q (y : Int)) (by omega) (by omega), iadd_id (a := (y : Int)) (by omega) (by omega), show (y : Int) + 1 = ((y + 1 : Nat) : Int) by omega]
      rw [ih (y + 1) m _ (by omega) (by omega) (by simp [lapp]; omega) (by simp [lapp]; omega), List.drop_eq_getElem_cons hy', gat_nat hy']
      simp only [lapp, List.map_cons, List.append_assoc, List.cons_append, List.nil_append]
def tailP (p : List Int) (k : Nat) (q : List Int) (j : Nat) : List Int := if j ≤ k then ((p.drop j).take (k - j)).map (insV k q.length) ++ q.map (fun x => x + (k : Int)) ++ (p.drop k).map (insV k q.length) else (p.drop j).map (insV k q.length)
theorem tail_lt {j : Nat} (h : j < k) (hj : j < p.length) : tailP p k q j = insV k q.length (gat 0 p (j : Int)) :: tailP p k q (j + 1) := by
  unfold tailP
  rw [if_pos (by omega), if_pos (by omega), List.drop_eq_getElem_cons hj, show k - j = (k - (j + 1)) + 1 by omega, List.take_succ_cons, gat_nat hj]
  simp only [List.map_cons, List.cons_append]
theorem tail_eq (hj : k < p.length) : tailP p k q k = q.map (fun x => x + (k : Int)) ++ insV k q.length (gat 0 p (k : Int)) :: tailP p k q (k + 1) := by
  unfold tailP
  rw [if_pos (Nat.le_refl _), if_neg (by omega), Nat.sub_self, List.take_zero, List.drop_eq_getElem_cons hj, gat_nat hj]
  simp only [List.map_cons, List.map_nil, List.nil_append]
theorem tail_gt {j : Nat} (h : k < j) (hj : j < p.length) : tailP p k q j = insV k q.length (gat 0 p (j : Int)) :: tailP p k q (j + 1) := by
  unfold tailP
  rw [if_neg (by omega), if_neg (by omega), List.drop_eq_getElem_cons hj, gat_nat hj]
  simp only [List.map_cons]
theorem put_L1 (hp : p.length ≤ 100) (hq : q.length ≤ 100) (hk : k ≤ p.length) (hu : Low p) (hv : Low q) (hf : 1000 < fu) : ∀ (d j m : Nat) (l : List Int), j + d = p.length → d < m → l.length ≤ j + (if k < j then q.length else 0) →
    F_spec_siPut_L1 fu p (k : Int) q m l (j : Int) = some (l ++ tailP p k q j, (p.length : Int)) := by
  intro d
  induction d with
  | zero =>
    intro j m l hj hm hl
    cases m with
    | zero => omega
    | succ m =>
      have : j = p.length := by omega
      subst this
      simp only [F_spec_siPut_L1, llen]
      rw [ile_t (by omega), cond_true]
      by_cases e : p.length = k
      · have h2 := put_L2 (fu := fu) (k := k) (j := (p.length : Int)) hp hq (by omega) hv q.length 0 fu l (by omega) (by omega) (by split at hl <;> omega) (by split at hl <;> omega)
        rw [Int.natCast_zero] at h2
        rw [ieq_t (by omega), cond_true, h2, bd_of, bd_of, ieq_t rfl, cond_true]
        simp [tailP, e]
      · rw [ieq_f (by omega), cond_false, bd_of, ieq_t rfl, cond_true]
        unfold tailP
        rw [if_neg (by omega), List.drop_eq_nil_of_le (by omega)]
        simp
  | succ d ih =>
    intro j m l hj hm hl
    cases m with
    | zero => omega
    | succ m =>
      have hj' : j < p.length := by omega
      obtain ⟨v0, v1⟩ := lowGat hu hj'
      have hs : (bif ile (k : Int) (gat 0 p (j : Int)) then some (iadd .i64 (gat 0 p (j : Int)) (q.length : Int)) else some (gat 0 p (j : Int))) = some (insV k q.length (gat 0 p (j : Int))) := by
        unfold insV
        by_cases h : (k : Int) ≤ gat 0 p (j : Int)
        · rw [ile_t h, cond_true, if_pos h, iadd_id (by omega) (by omega)]
        · rw [ile_f h, cond_false, if_neg h]
      simp only [F_spec_siPut_L1, llen]
      rw [ile_t (by omega), cond_true]
      by_cases e : j = k
      · subst e
        have h2 := put_L2 (fu := fu) (k := j) (j := (j : Int)) hp hq (by omega) hv q.length 0 fu l (by omega) (by omega) (by split at hl <;> omega) (by split at hl <;> omega)
        rw [Int.natCast_zero] at h2
        rw [ieq_t rfl, cond_true, h2, bd_of, bd_of, ieq_f (by omega), cond_false, gd_t (inL_nat hj'), hs, bd_of, gd_t (by simp; split at hl <;> omega), iadd_id (by omega) (by omega), show (j : Int) + 1 = ((j + 1 : Nat) : Int) by omega]
        rw [ih (j + 1) m _ (by omega) (by omega) (by simp only [lapp, List.length_append, List.length_cons, List.length_nil, List.length_map, List.length_drop]; split at hl <;> split <;> omega), tail_eq hj']
        simp [lapp]
      · rw [ieq_f (by omega), cond_false, bd_of, ieq_f (by omega), cond_false, gd_t (inL_nat hj'), hs, bd_of, gd_t (by simp; split at hl <;> omega), iadd_id (by omega) (by omega), show (j : Int) + 1 = ((j + 1 : Nat) : Int) by omega]
        rw [ih (j + 1) m _ (by omega) (by omega) (by simp only [lapp, List.length_append, List.length_cons, List.length_nil]; split at hl <;> split <;> omega)]
        rcases Nat.lt_or_gt_of_ne e with h | h
        · rw [tail_lt h hj']
          simp [lapp]
        · rw [tail_gt h hj']
          simp [lapp]
theorem siPut_eq (hp : p.length ≤ 100) (hq : q.length ≤ 100) (hk : k ≤ p.length) (hu : Low p) (hv : Low q) (hf : 1000 < fu) : F_spec_siPut fu p (k : Int) q = some (putZ p k q) := by
  unfold F_spec_siPut
  have h := put_L1 (fu := fu) hp hq hk hu hv hf p.length 0 fu [] (by omega) (by omega) (by simp)
  rw [Int.natCast_zero] at h
  rw [h, bd_of]
  simp [tailP, putZ]
theorem insN_lt (hk : k ≤ p.length) {z : Nat} (hz : z < p.length) : insN k q.length z < p.length + q.length := by unfold insN; split <;> omega
theorem insN_inj {m a b : Nat} (h : insN k m a = insN k m b) : a = b := by unfold insN at h; split at h <;> split at h <;> omega
theorem ins_V {m : Nat} {x : Int} (h : 0 ≤ x) (h1 : x ≤ 1000) (hq : q.length ≤ 100) (hm : m = q.length) : F_impl_inserted_1 fu x (k : Int) q = some (insV k m x) := by
  subst hm
  unfold F_impl_inserted_1 insV
  by_cases hx : (k : Int) ≤ x
  · rw [ile_t hx, cond_true, if_pos hx, iadd_id (by simp only [llen]; omega) (by simp only [llen]; omega)]
    rfl
  · rw [ile_f hx, cond_false, if_neg hx]
theorem insV_nat {m y : Nat} : insV k m (y : Int) = ((insN k m y : Nat) : Int) := by
  unfold insV insN
  by_cases h : k ≤ y
  · rw [if_pos h, if_pos (by omega)]; omega
  · rw [if_neg h, if_neg (by omega)]
theorem set_same' {l : List Int} {i : Nat} {v : Int} (h : i < l.length) : (l.set i v)[i]? = some v := by simp [h]
theorem ins_L1 (hp : p.length ≤ 100) (hq : q.length ≤ 100) (hk : k ≤ p.length) (hu : Low p) : ∀ (d y m : Nat) (l : List Int), y + d = p.length → d < m → l.length = p.length + q.length → (∀ z, z < y → l[insN k q.length z]? = some (insV k q.length (gat 0 p (z : Int)))) →
    ∃ l', F_impl_inserted_L1 fu (k : Int) q p (p.length : Int) m l (y : Int) = some (l', (p.length : Int)) ∧ l'.length = p.length + q.length ∧ ∀ z, z < p.length → l'[insN k q.length z]? = some (insV k q.length (gat 0 p (z : Int))) := by
  intro d
  induction d with
  | zero =>
    intro y m l hy hm hl hi
    cases m with
    | zero => omega
    | succ m =>
      have : y = p.length := by omega
      subst this
      simp only [F_impl_inserted_L1]
      rw [ilt_f (by omega), cond_false]
      exact ⟨l, rfl, hl, hi⟩
  | succ d ih =>
    intro y m l hy hm hl hi
    cases m with
    | zero => omega
    | succ m =>
      have hy' : y < p.length := by omega
      obtain ⟨v0, v1⟩ := lowGat hu hy'
      have hb := insN_lt (q := q) hk hy'
      simp only [F_impl_inserted_L1]
      rw [ilt_t (by omega), cond_true, gd_t (inL_nat hy'), ins_V (fu := fu) (k := k) (m := q.length) (x := (y : Int)) (by omega) (by omega) hq rfl, bd_of, ins_V (fu := fu) (k := k) (m := q.length) v0 v1 hq rfl, bd_of, insV_nat, gd_t (inL_nat (by omega)), lset_nat, iadd_id (by omega) (by omega), show (y : Int) + 1 = ((y + 1 : Nat) : Int) by omega]
      refine ih (y + 1) m _ (by omega) (by omega) (by simp [hl]) (fun z hz => ?_)
      by_cases e : z = y
      · subst e
        exact set_same' (by omega)
      · rw [List.getElem?_set_ne (fun h => e (insN_inj h).symm)]
        exact hi z (by omega)
theorem ins_L2 (hp : p.length ≤ 100) (hq : q.length ≤ 100) (hk : k ≤ p.length) (hu : Low p) (hv : Low q) : ∀ (d y m : Nat) (l : List Int), y + d = q.length → d < m → l.length = p.length + q.length → (∀ z, z < p.length → l[insN k q.length z]? = some (insV k q.length (gat 0 p (z : Int)))) →
    (∀ z, z < y → l[k + z]? = some (gat 0 q (z : Int) + (k : Int))) →
    ∃ l', F_impl_inserted_L2 fu (k : Int) q (q.length : Int) m l (y : Int) = some (l', (q.length : Int)) ∧ l'.length = p.length + q.length ∧ (∀ z, z < p.length → l'[insN k q.length z]? = some (insV k q.length (gat 0 p (z : Int)))) ∧ ∀ z, z < q.length → l'[k + z]? = some (gat 0 q (z : Int) + (k : Int)) := by
  intro d
  induction d with
  | zero =>
    intro y m l hy hm hl hi hj
    cases m with
    | zero => omega
    | succ m =>
      have : y = q.length := by omega
      subst this
      simp only [F_impl_inserted_L2]
      rw [ilt_f (by omega), cond_false]
      exact ⟨l, rfl, hl, hi, hj⟩
  | succ d ih =>
    intro y m l hy hm hl hi hj
    cases m with
    | zero => omega
    | succ m =>
      have hy' : y < q.length := by omega
      obtain ⟨v0, v1⟩ := lowGat hv hy'
      simp only [F_impl_inserted_L2]
      rw [ilt_t (by omega), cond_true, gd_t (inL_nat hy'), iadd_id (a := (k : Int)) (b := (y : Int)) (by omega) (by omega), show (k : Int) + (y : Int) = ((k + y : Nat) : Int) by omega, gd_t (inL_nat (by omega)), lset_nat, iadd_id (a := (k : Int)) (by omega) (by omega), iadd_id (a := (y : Int)) (by omega) (by omega), show (y : Int) + 1 = ((y + 1 : Nat) : Int) by omega]
      refine ih (y + 1) m _ (by omega) (by omega) (by simp [hl]) (fun z hz => ?_) (fun z hz => ?_)
      · rw [List.getElem?_set_ne (fun h => by unfold insN at h; split at h <;> omega)]
        exact hi z hz
      · by_cases e : z = y
        · subst e
          rw [set_same' (by omega), Int.add_comm]
        · rw [List.getElem?_set_ne (by omega)]
          exact hj z (by omega)
theorem putZ_get (hk : k ≤ p.length) {l : List Int} (hl : l.length = p.length + q.length) (h1 : ∀ z, z < p.length → l[insN k q.length z]? = some (insV k q.length (gat 0 p (z : Int)))) (h2 : ∀ z, z < q.length → l[k + z]? = some (gat 0 q (z : Int) + (k : Int))) : l = putZ p k q := by
  refine List.ext_getElem? fun i => ?_
  unfold putZ
  by_cases a : i < k
  · have := h1 i (by omega)
    rw [show insN k q.length i = i by unfold insN; rw [if_neg (by omega)], gat_nat (by omega)] at this
    rw [this, List.append_assoc, List.getElem?_append_left (by simp; omega)]
    simp [List.getElem?_take, a, show i < p.length by omega]
  · by_cases b : i < k + q.length
    · have := h2 (i - k) (by omega)
      rw [show k + (i - k) = i by omega, gat_nat (by omega)] at this
      rw [this, List.getElem?_append_left (by simp; omega), List.getElem?_append_right (by simp; omega)]
      simp [show min k p.length = k by omega, show i - k < q.length by omega]
    · by_cases c : i < p.length + q.length
      · have := h1 (i - q.length) (by omega)
        rw [show insN k q.length (i - q.length) = i by unfold insN; rw [if_pos (by omega)]; omega, gat_nat (by omega)] at this
        rw [this, List.getElem?_append_right (by simp; omega)]
        simp [show min k p.length = k by omega]
        rw [List.getElem?_eq_getElem (by omega)]
        simp [show k + (i - (k + q.length)) = i - q.length by omega]
      · rw [List.getElem?_eq_none (by omega), List.getElem?_eq_none (by simp; omega)]
theorem inserted_eq (hp : p.length ≤ 100) (hq : q.length ≤ 100) (hk : k ≤ p.length) (hu : Low p) (hv : Low q) (hf : 1000 < fu) : F_impl_inserted fu p (k : Int) q = some (putZ p k q) := by
  unfold F_impl_inserted
  have hI : iadd .i64 (llen p) (llen q) = (p.length : Int) + (q.length : Int) := iadd_id (by simp only [llen]; omega) (by simp only [llen]; omega)
  rw [gd_t (by rw [hI]; omega)]
  simp only [hI]
  simp only [llen]
  obtain ⟨l1, e1, n1, i1⟩ := ins_L1 (fu := fu) hp hq hk hu p.length 0 fu (lrep ((p.length : Int) + (q.length : Int)) 0) (by omega) (by omega) (by simp [lrep]; omega) (fun z hz => by omega)
  rw [Int.natCast_zero] at e1
  rw [e1, bd_of]
  obtain ⟨l2, e2, n2, i2, j2⟩ := ins_L2 (fu := fu) hp hq hk hu hv q.length 0 fu l1 (by omega) (by omega) n1 i1 (fun z hz => by omega)
  rw [Int.natCast_zero] at e2
  simp only
  rw [e2, bd_of, putZ_get hk n2 i2 j2]
end
end Go.Proofs.Ytbckijeffiofdaa.AL
