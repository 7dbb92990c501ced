/- Systems farthest from one: the program's and the reference's are one. No condition. -/
import Derived.Test.YtogghgecmjnieaaGreatPBBE
import Derived.Test.YtogghgecmjnieaaGreatPMP
namespace Go.Proofs.YtogghgecmjnieaaGreat.AL
open Go Go.Proofs.YtogghgecmjnieaaGreat.Arch
set_option linter.unusedVariables false
set_option linter.unusedSimpArgs false
set_option maxRecDepth 100000
theorem listE_of {n : Nat} (h0 : 1 ≤ n) (h1 : n ≤ 6) : ∃ L, F_impl_systems 2000000 (n : Int) = some L ∧ F_spec_ahAll 2000000 (n : Int) 0 = some L ∧ L.length ≤ 132 ∧ (∀ p ∈ L, sysB p = true ∧ (p.length : Int) = 2 * (n : Int)) ∧ ∀ q, sysB q = true → q.length = 2 * n → q ∈ L := by
 have h : listsE n = true := by
  rcases (by omega : n = 1 ∨ n = 2 ∨ n = 3 ∨ n = 4 ∨ n = 5 ∨ n = 6) with rfl | rfl | rfl | rfl | rfl | rfl
  ·exact listE_1
  ·exact listE_2
  ·exact listE_3
  ·exact listE_4
  ·exact listE_5
  ·exact listE_6
 unfold listsE at h
 split at h
 ·rename_i a b e1 e2
  simp only [Bool.and_eq_true, decide_eq_true_eq, List.all_eq_true, beq_iff_eq, List.contains_iff_mem] at h
  obtain ⟨rfl, h2, h3, h4⟩ := h
  exact ⟨a, e1, e2, h2, h3, fun q hq hl => h4 q (by rw [← hl]; exact cand_of hq)⟩
 ·cases h
section
variable {fu : Nat} {a : List Int}
def farSt (d : List Int → Int) (s : Int × List (List Int)) (x : List Int) : Int × List (List Int) :=
 if s.1 < d x then (d x, [x]) else if d x = s.1 then (s.1, s.2 ++ [x]) else s
theorem far_eq {d : List Int → Int} {M : Int} : ∀ (rest : List (List Int)) (l : List (List Int)), (∀ x ∈ rest, d x ≤ M) → rest.foldl (farSt d) (M, l) = (M, l ++ rest.filter fun x => decide (d x = M))
 | [], l, _ => by simp
 | x :: rest, l, h => by
  have hx := h x (by simp)
  have ih := fun l => far_eq (d := d) (M := M) rest l fun y hy => h y (by simp [hy])
  rw [List.foldl_cons]
  unfold farSt
  rw [if_neg (by simp only; omega)]
  by_cases hd : d x = M
  ·rw [if_pos hd, List.filter_cons_of_pos (by simp [hd])]
   have := ih (l ++ [x])
   unfold farSt at this
   rw [this]
   simp
  ·rw [if_neg hd, List.filter_cons_of_neg (by simp [hd])]
   have := ih l
   unfold farSt at this
   rw [this]
theorem far_lt {d : List Int → Int} {M : Int} : ∀ (rest : List (List Int)) (m : Int) (l : List (List Int)), (∀ x ∈ rest, d x ≤ M) → m < M → (∃ x ∈ rest, d x = M) → rest.foldl (farSt d) (m, l) = (M, rest.filter fun x => decide (d x = M))
 | [], m, l, _, _, ⟨x, hx, _⟩ => by simp at hx
 | x :: rest, m, l, h, hm, ⟨y, hy, hyM⟩ => by
  have hx := h x (by simp)
  rw [List.foldl_cons]
  by_cases hd : d x = M
  ·have e : farSt d (m, l) x = (M, [x]) := by
    unfold farSt
    rw [if_pos (by simp only; omega), hd]
   rw [e, far_eq rest _ fun y hy => h y (by simp [hy]), List.filter_cons_of_pos (by simp [hd])]
   rfl
  ·have hy' : ∃ y ∈ rest, d y = M := by
    rcases List.mem_cons.1 hy with rfl | hy
    ·exact absurd hyM hd
    ·exact ⟨y, hy, hyM⟩
   have e : ∃ m' l', farSt d (m, l) x = (m', l') ∧ m' < M := by
    unfold farSt
    by_cases c : m < d x
    ·rw [if_pos c]
     exact ⟨_, _, rfl, by omega⟩
    ·rw [if_neg c]
     by_cases c2 : d x = m
     ·rw [if_pos c2]
      exact ⟨_, _, rfl, hm⟩
     ·rw [if_neg c2]
      exact ⟨_, _, rfl, hm⟩
   obtain ⟨m', l', e, hm'⟩ := e
   rw [e, far_lt rest m' l' (fun y hy => h y (by simp [hy])) hm' hy', List.filter_cons_of_neg (by simp [hd])]
theorem ff_L {X : List (List Int)} (hX : X.length ≤ 2000) : ∀ (rest pre l : List (List Int)) (m : Int) (k n : Nat), (∀ x ∈ rest, pairB a x = true) → pre ++ rest = X → pre.length = k → rest.length < n → l.length ≤ k →
  F_spec_FarthestFrom_L1 2000000 a X (X.length : Int) n m l (k : Int) = some ((rest.foldl (farSt (distV a)) (m, l)).1, (rest.foldl (farSt (distV a)) (m, l)).2, (X.length : Int)) := by
 intro rest
 induction rest with
 | nil =>
  intro pre l m k n hf hp hk hn hc
  cases n with
  | zero => simp at hn
  | succ n =>
   have : k = X.length := by rw [← hp, ← hk]; simp
   subst this
   simp only [F_spec_FarthestFrom_L1]
   rw [ilt_f (by omega), cond_false]
   rfl
 | cons x rest ih =>
  intro pre l m k n hf hp hk hn hc
  cases n with
  | zero => simp at hn
  | succ n =>
   have hlen : k < X.length := by rw [← hp, ← hk]; simp
   have hg : gat [] X (k : Int) = x := by rw [← hp]; exact gatR hk
   have go := fun m' l' (hl' : List.length l' ≤ k + 1) => ih (pre ++ [x]) l' m' (k + 1) n (fun y hy => hf y (by simp [hy])) (by rw [← hp]; simp) (by simp [hk]) (by simp at hn; omega) hl'
   simp only [F_spec_FarthestFrom_L1]
   rw [ilt_t (by omega), cond_true, gd_t (inL_nat hlen), gd_t (by omega), hg]
   rw [dist_eq (hf x (by simp)), bd_of, iadd_id (a := (k : Int)) (by omega) (by omega), show ((k : Int) + 1) = ((k + 1 : Nat) : Int) by omega, List.foldl_cons, ilt_eq]
   by_cases c : m < distV a x
   ·have e : farSt (distV a) (m, l) x = (distV a x, lapp [] [x]) := by
     unfold farSt
     rw [if_pos c]
     rfl
    rw [decide_eq_true c, cond_true, bd_of, e]
    simp only
    rw [ieq_t rfl, cond_true, gd_t (by simp), go _ _ (by simp [lapp])]
   ·rw [decide_eq_false c, cond_false, bd_of]
    simp only
    by_cases c2 : distV a x = m
    ·have e : farSt (distV a) (m, l) x = (m, lapp l [x]) := by
      unfold farSt
      rw [if_neg c, if_pos c2]
      rfl
     rw [ieq_t c2, cond_true, gd_t (by omega), go _ _ (by simp [lapp]; omega), e]
    ·have e : farSt (distV a) (m, l) x = (m, l) := by
      unfold farSt
      rw [if_neg c, if_neg c2]
     rw [ieq_f c2, cond_false, go _ _ (by omega), e]
theorem far_of (ha : a.length ≤ 1048576) : ∃ S : List (List Int) × Bool, F_spec_FarthestFrom 2000000 a = some S ∧ F_impl_FarthestFrom 2000000 a = some S ∧ S.1.length ≤ 132 ∧ ∀ x ∈ S.1, x.length ≤ 12 := by
 unfold F_spec_FarthestFrom F_impl_FarthestFrom F_impl_ClosingWith
 rw [good_eq ha, issys_eq ha, bd_of]
 cases h : sysB a
 ·exact ⟨_, rfl, rfl, by simp, by simp⟩
 ·by_cases h0 : a.length = 0
  ·have e : ieq (llen a) 0 = true := ieq_t (by simp only [llen]; omega)
   simp only [bnot, Bool.not_true, cond_false, e]
   exact ⟨_, rfl, rfl, by simp, by simp⟩
  ·have e : ieq (llen a) 0 = false := ieq_f (by simp only [llen]; omega)
   have hl := sys_le h
   have hev : a.length % 2 = 0 := (mem_sysN h).2.1
   obtain ⟨X, e1, e2, l1, l2, l3⟩ := listE_of (n := a.length / 2) (by omega) (by omega)
   have hp : ∀ x ∈ X, pairB a x = true := fun x hx => by
    obtain ⟨s1, s2⟩ := l2 x hx
    unfold pairB
    rw [h, s1]
    simp only [Bool.and_self, Bool.true_and, decide_eq_true_eq]
    omega
   have hd : ∀ x, distV a x = (a.length : Int) / 2 - cmpV a x := fun x => rfl
   have hle : ∀ x ∈ X, distV a x ≤ ((a.length / 2 : Nat) : Int) - 1 := fun x hx => by
    have := cmp_pos (hp x hx) (by omega)
    rw [hd]
    omega
   obtain ⟨y, hy, y1, y2⟩ := close_ex h (by omega)
   have hex : ∃ x ∈ X, distV a x = ((a.length / 2 : Nat) : Int) - 1 := ⟨y, l3 y hy (by omega), by rw [hd]; omega⟩
   have hfold : (X.foldl (farSt (distV a)) (0, [])).2 = X.filter fun x => decide (distV a x = ((a.length / 2 : Nat) : Int) - 1) := by
    by_cases hn : a.length / 2 = 1
    ·have hM : (0 : Int) = ((a.length / 2 : Nat) : Int) - 1 := by omega
     have := far_eq (d := distV a) (M := ((a.length / 2 : Nat) : Int) - 1) X [] hle
     rw [← hM] at this
     rw [← hM, this]
     simp
    ·rw [far_lt X 0 [] hle (by omega) hex]
   have hP : (X.filter fun x => decide (distV a x = ((a.length / 2 : Nat) : Int) - 1)) = X.filter fun x => ieq (cmpV a x) 1 := by
    refine List.filter_congr fun x hx => ?_
    rw [ieq_eq, hd]
    by_cases hc : cmpV a x = 1
    ·rw [hc]
     simp only [beq_self_eq_true, decide_eq_true_eq]
     omega
    ·have hc2 : (cmpV a x == 1) = false := by simpa using hc
     rw [hc2, decide_eq_false_iff_not]
     omega
   have c := ff_L (a := a) (X := X) (by omega) X [] [] 0 0 2000000 hp rfl rfl (by omega) (Nat.le_refl _)
   have dl := delR_eq (fu := 2000000) (P := fun x => ieq (cmpV a x) 1) (X := X) (f := fun y0 => F_impl_ClosingWith_1 2000000 y0 a) (by omega) (by omega) (fun x hx => by
    unfold F_impl_ClosingWith_1 F_impl_Meander_isOne
    rw [comp_eq (hp x hx), bd_of, bd_of])
   rw [Int.natCast_zero, hfold, hP] at c
   simp only [bnot, Bool.not_true, cond_false, e, bd_of]
   simp only [llen]
   rw [quo12 _ (by omega), e1, e2, bd_of, bd_of, dl, bd_of, c, bd_of]
   have hlen := List.length_filter_le (fun x => ieq (cmpV a x) 1) X
   refine ⟨_, rfl, rfl, by simp only; omega, fun x hx => ?_⟩
   have hx' : x ∈ X := (List.mem_filter.1 hx).1
   obtain ⟨a1, a2⟩ := l2 x hx'
   omega
end
end Go.Proofs.YtogghgecmjnieaaGreat.AL
