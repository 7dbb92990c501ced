/- A system put into another one: the program's and the reference's are one. No condition. -/
import Derived.Test.YtbckijeffiofdaaPDR
import Derived.Test.YtbckijeffiofdaaG1
import Derived.Test.YtbckijeffiofdaaG2
import Derived.Test.YtbckijeffiofdaaG3
import Derived.Test.YtbckijeffiofdaaG4
import Derived.Test.YtbckijeffiofdaaG5
import Derived.Test.YtbckijeffiofdaaG6
import Derived.Test.YtbckijeffiofdaaG7
import Derived.Test.YtbckijeffiofdaaG8
import Derived.Test.YtbckijeffiofdaaG9
import Derived.Test.YtbckijeffiofdaaG10
import Derived.Test.YtbckijeffiofdaaG11
import Derived.Test.YtbckijeffiofdaaG12
import Derived.Test.YtbckijeffiofdaaG13
import Derived.Test.YtbckijeffiofdaaG14
import Derived.Test.YtbckijeffiofdaaG15
import Derived.Test.YtbckijeffiofdaaG16
import Derived.Test.YtbckijeffiofdaaG17
import Derived.Test.YtbckijeffiofdaaG18
import Derived.Test.YtbckijeffiofdaaG19
import Derived.KernelRfl
namespace Go.Proofs.Ytbckijeffiofdaa.AL
open Go Go.Proofs.Ytbckijeffiofdaa.Arch
set_option linter.unusedVariables false
set_option linter.unusedSimpArgs false
set_option maxRecDepth 100000
def insV (k m : Nat) (x : Int) : Int := if (k : Int) ≤ x then x + m else x
def putZ (p : List Int) (k : Nat) (q : List Int) : List Int := (p.take k).map (insV k q.length) ++ q.map (fun x => x + (k : Int)) ++ (p.drop k).map (insV k q.length)
def Low (p : List Int) : Prop := ∀ x ∈ p, 0 ≤ x ∧ x ≤ 1000
section
variable {fu : Nat} {p q : List Int} {k : Nat}
theorem putZ_len (h : k ≤ p.length) : (putZ p k q).length = p.length + q.length := by simp [putZ]; omega
theorem lowGat (h : Low p) {j : Nat} (hj : j < p.length) : 0 ≤ gat 0 p (j : Int) ∧ gat 0 p (j : Int) ≤ 1000 := by
  rw [gat_nat hj]
  exact h _ (List.getElem_mem hj)
theorem putA_L2 (hp : p.length ≤ 100) (hq : q.length ≤ 100) (hk : k ≤ 100) (hv : Low q) {j : Int} : ∀ (d y m : Nat) (l : List Int), y + d = q.length → d < m → l.length ≤ 1000 → l.length + d ≤ 1000 →
    F_spec_siPut_L2 fu p (k : Int) q j (q.length : Int) m l (y : Int) = some (l ++ (q.drop y).map (fun x => x + (k : Int)), (q.length : Int)) := by
  intro d
  induction d with
  | zero =>
    intro y m l hy hm hl hl2
    cases m with
    | zero => omega
    | succ m =>
      simp only [F_spec_siPut_L2]
      rw [ilt_f (by omega), cond_false, List.drop_eq_nil_of_le (by omega)]
      simp
      omega
  | succ d ih =>
    intro y m l hy hm hl hl2
    cases m with
    | zero => omega
    | succ m =>
      have hy' : y < q.length := by omega
      obtain ⟨v0, v1⟩ := lowGat hv hy'
      simp only [F_spec_siPut_L2]
      rw [ilt_t (by omega), cond_true, gd_t (inL_nat hy'), gd_t (by simp; omega), iadd_id (a := gat 0 q (y : Int)) (by omega) (by omega), iadd_id (a := (y : Int)) (by omega) (by omega), show (y : Int) + 1 = ((y + 1 : Nat) : Int) by omega]
      rw [ih (y + 1) m _ (by omega) (by omega) (by simp [lapp]; omega) (by simp [lapp]; omega), List.drop_eq_getElem_cons hy', gat_nat hy']
      simp only [lapp, List.map_cons, List.append_assoc, List.cons_append, List.nil_append]
def tailP (p : List Int) (k : Nat) (q : List Int) (j : Nat) : List Int := if j ≤ k then ((p.drop j).take (k - j)).map (insV k q.length) ++ q.map (fun x => x + (k : Int)) ++ (p.drop k).map (insV k q.length) else (p.drop j).map (insV k q.length)
theorem tail_lt {j : Nat} (h : j < k) (hj : j < p.length) : tailP p k q j = insV k q.length (gat 0 p (j : Int)) :: tailP p k q (j + 1) := by
  unfold tailP
  rw [if_pos (by omega), if_pos (by omega), List.drop_eq_getElem_cons hj, show k - j = (k - (j + 1)) + 1 by omega, List.take_succ_cons, gat_nat hj]
  simp only [List.map_cons, List.cons_append]
theorem tail_eq (hj : k < p.length) : tailP p k q k = q.map (fun x => x + (k : Int)) ++ insV k q.length (gat 0 p (k : Int)) :: tailP p k q (k + 1) := by
  unfold tailP
  rw [if_pos (Nat.le_refl _), if_neg (by omega), Nat.sub_self, List.take_zero, List.drop_eq_getElem_cons hj, gat_nat hj]
  simp only [List.map_cons, List.map_nil, List.nil_append]
theorem tail_gt {j : Nat} (h : k < j) (hj : j < p.length) : tailP p k q j = insV k q.length (gat 0 p (j : Int)) :: tailP p k q (j + 1) := by
  unfold tailP
  rw [if_neg (by omega), if_neg (by omega), List.drop_eq_getElem_cons hj, gat_nat hj]
  simp only [List.map_cons]
theorem putA_L1 (hp : p.length ≤ 100) (hq : q.length ≤ 100) (hk : k ≤ p.length) (hu : Low p) (hv : Low q) (hf : 1000 < fu) : ∀ (d j m : Nat) (l : List Int), j + d = p.length → d < m → l.length ≤ j + (if k < j then q.length else 0) →
    F_spec_siPut_L1 fu p (k : Int) q m l (j : Int) = some (l ++ tailP p k q j, (p.length : Int)) := by
  intro d
  induction d with
  | zero =>
    intro j m l hj hm hl
    cases m with
    | zero => omega
    | succ m =>
      have : j = p.length := by omega
      subst this
      simp only [F_spec_siPut_L1, llen]
      rw [ile_t (by omega), cond_true]
      by_cases e : p.length = k
      · have h2 := putA_L2 (fu := fu) (k := k) (j := (p.length : Int)) hp hq (by omega) hv q.length 0 fu l (by omega) (by omega) (by split at hl <;> omega) (by split at hl <;> omega)
        rw [Int.natCast_zero] at h2
        rw [ieq_t (by omega), cond_true, h2, bd_of, bd_of, ieq_t rfl, cond_true]
        simp [tailP, e]
      · rw [ieq_f (by omega), cond_false, bd_of, ieq_t rfl, cond_true]
        unfold tailP
        rw [if_neg (by omega), List.drop_eq_nil_of_le (by omega)]
        simp
  | succ d ih =>
    intro j m l hj hm hl
    cases m with
    | zero => omega
    | succ m =>
      have hj' : j < p.length := by omega
      obtain ⟨v0, v1⟩ := lowGat hu hj'
      have hs : (bif ile (k : Int) (gat 0 p (j : Int)) then some (iadd .i64 (gat 0 p (j : Int)) (q.length : Int)) else some (gat 0 p (j : Int))) = some (insV k q.length (gat 0 p (j : Int))) := by
        unfold insV
        by_cases h : (k : Int) ≤ gat 0 p (j : Int)
        · rw [ile_t h, cond_true, if_pos h, iadd_id (by omega) (by omega)]
        · rw [ile_f h, cond_false, if_neg h]
      simp only [F_spec_siPut_L1, llen]
      rw [ile_t (by omega), cond_true]
      by_cases e : j = k
      · subst e
        have h2 := putA_L2 (fu := fu) (k := j) (j := (j : Int)) hp hq (by omega) hv q.length 0 fu l (by omega) (by omega) (by split at hl <;> omega) (by split at hl <;> omega)
        rw [Int.natCast_zero] at h2
        rw [ieq_t rfl, cond_true, h2, bd_of, bd_of, ieq_f (by omega), cond_false, gd_t (inL_nat hj'), hs, bd_of, gd_t (by simp; split at hl <;> omega), iadd_id (by omega) (by omega), show (j : Int) + 1 = ((j + 1 : Nat) : Int) by omega]
        rw [ih (j + 1) m _ (by omega) (by omega) (by simp only [lapp, List.length_append, List.length_cons, List.length_nil, List.length_map, List.length_drop]; split at hl <;> split <;> omega), tail_eq hj']
        simp [lapp]
      · rw [ieq_f (by omega), cond_false, bd_of, ieq_f (by omega), cond_false, gd_t (inL_nat hj'), hs, bd_of, gd_t (by simp; split at hl <;> omega), iadd_id (by omega) (by omega), show (j : Int) + 1 = ((j + 1 : Nat) : Int) by omega]
        rw [ih (j + 1) m _ (by omega) (by omega) (by simp only [lapp, List.length_append, List.length_cons, List.length_nil]; split at hl <;> split <;> omega)]
        rcases Nat.lt_or_gt_of_ne e with h | h
        · rw [tail_lt h hj']
          simp [lapp]
        · rw [tail_gt h hj']
          simp [lapp]
theorem siPut_eq (hp : p.length ≤ 100) (hq : q.length ≤ 100) (hk : k ≤ p.length) (hu : Low p) (hv : Low q) (hf : 1000 < fu) : F_spec_siPut fu p (k : Int) q = some (putZ p k q) := by
  unfold F_spec_siPut
  have h := putA_L1 (fu := fu) hp hq hk hu hv hf p.length 0 fu [] (by omega) (by omega) (by simp)
  rw [Int.natCast_zero] at h
  rw [h, bd_of]
  simp [tailP, putZ]
end
end Go.Proofs.Ytbckijeffiofdaa.AL
