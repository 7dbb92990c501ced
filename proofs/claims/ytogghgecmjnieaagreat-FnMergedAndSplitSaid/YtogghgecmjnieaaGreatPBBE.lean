/- Rows deleted. No condition. -/
import Derived.Test.YtogghgecmjnieaaGreatPXQ
namespace Go.Proofs.YtogghgecmjnieaaGreat.AL
open Go Go.Proofs.YtogghgecmjnieaaGreat.Arch
set_option linter.unusedVariables false
set_option linter.unusedSimpArgs false
set_option maxRecDepth 100000
section
variable {fu : Nat} {P : List Int → Bool} {f : List Int → Option Bool}
theorem gatR {pre rest : List (List Int)} {r : List Int} {k : Nat} (h : pre.length = k) : gat [] (pre ++ r :: rest) (k : Int) = r := by
 subst h
 simp [gat_eq]
theorem idxR_L {X : List (List Int)} (hX : X.length ≤ 2000) : ∀ (rest pre : List (List Int)) (k m : Nat), (∀ x ∈ rest, f x = some (bnot (P x))) → pre ++ rest = X → pre.length = k → rest.length < m →
  (∃ A b T, rest = A ++ b :: T ∧ (∀ x ∈ A, P x = true) ∧ P b = false ∧ F_slices_IndexFunc_SSint_L1 fu X f (X.length : Int) m (k : Int) = some (.ret ((k + A.length : Nat) : Int))) ∨
  ((∀ x ∈ rest, P x = true) ∧ F_slices_IndexFunc_SSint_L1 fu X f (X.length : Int) m (k : Int) = some (.brk (X.length : Int))) := by
 intro rest
 induction rest with
 | nil =>
  intro pre k m hf hp hk hm
  cases m with
  | zero => simp at hm
  | succ m =>
   refine .inr ⟨by simp, ?_⟩
   have : k = X.length := by rw [← hp, ← hk]; simp
   subst this
   simp only [F_slices_IndexFunc_SSint_L1]
   rw [ilt_f (by omega), cond_false]
 | cons x rest ih =>
  intro pre k m hf hp hk hm
  cases m with
  | zero => simp at hm
  | succ m =>
   have hlen : k < X.length := by rw [← hp, ← hk]; simp
   have hg : gat [] X (k : Int) = x := by rw [← hp]; exact gatR hk
   have hin : inL X (k : Int) := inL_nat hlen
   simp only [F_slices_IndexFunc_SSint_L1]
   rw [ilt_t (by omega), cond_true, gd_t hin, hg, hf x (by simp), bd_of]
   cases hx : P x
   ·exact .inl ⟨[], x, rest, rfl, by simp, hx, by simp [bnot]⟩
   ·rw [show bnot true = false from rfl, cond_false, iadd_id (by omega) (by omega), show ((k : Int) + 1) = ((k + 1 : Nat) : Int) by omega]
    rcases ih (pre ++ [x]) (k + 1) m (fun y hy => hf y (by simp [hy])) (by rw [← hp]; simp) (by simp [hk]) (by simp at hm; omega) with ⟨A, b, T, e, hA, hb, h⟩ | ⟨hA, h⟩
    ·refine .inl ⟨x :: A, b, T, by rw [e]; rfl, fun y hy => ?_, hb, ?_⟩
     ·rcases List.mem_cons.1 hy with rfl | hy
      ·exact hx
      ·exact hA y hy
     ·rw [h]
      simp
      omega
    ·refine .inr ⟨fun y hy => ?_, h⟩
     rcases List.mem_cons.1 hy with rfl | hy
     ·exact hx
     ·exact hA y hy
theorem delR_L : ∀ (T W gap : List (List Int)) (m : Nat), (∀ x ∈ T, f x = some (bnot (P x))) → gap ≠ [] → (W ++ gap ++ T).length ≤ 2000 → T.length < m →
  ∃ l' : List (List Int), F_slices_DeleteFunc_SSint_L1 fu f m (W ++ gap ++ T) (W.length : Int) ((W.length + gap.length : Nat) : Int) = some (l', ((W ++ T.filter P).length : Int), (l'.length : Int)) ∧
   l'.take (W ++ T.filter P).length = W ++ T.filter P ∧ (W ++ T.filter P).length < l'.length := by
 intro T
 induction T with
 | nil =>
  intro W gap m hf hg hl hm
  cases m with
  | zero => simp at hm
  | succ m =>
   have h0 : 0 < gap.length := List.length_pos_iff.2 hg
   refine ⟨W ++ gap, ?_, by simp, by simp; omega⟩
   simp only [F_slices_DeleteFunc_SSint_L1, List.append_nil, List.filter_nil, llen]
   rw [ilt_f (by simp), cond_false]
   simp
 | cons x T ih =>
  intro W gap m hf hg hl hm
  cases m with
  | zero => simp at hm
  | succ m =>
   have h0 : 0 < gap.length := List.length_pos_iff.2 hg
   have hgat : gat [] (W ++ gap ++ x :: T) ((W.length + gap.length : Nat) : Int) = x := gatR (by simp)
   have hin : inL (W ++ gap ++ x :: T) ((W.length + gap.length : Nat) : Int) := inL_nat (by simp)
   have hl2 : (W ++ gap ++ x :: T).length ≤ 4294967296 := by omega
   simp only [List.length_append, List.length_cons] at hl
   have hm' : T.length < m := by simp at hm; omega
   have hstep : iadd .i64 ((W.length + gap.length : Nat) : Int) 1 = ((W.length + gap.length + 1 : Nat) : Int) := by rw [iadd_id (by omega) (by omega)]; omega
   simp only [F_slices_DeleteFunc_SSint_L1]
   rw [ilt_t (by simp only [llen, List.length_append, List.length_cons]; omega), cond_true, gd_t hin, gd_t (by omega), gd_t hl2, hgat, hf x (by simp), bd_of, hstep]
   cases hx : P x
   ·rw [show bnot (bnot false) = false from rfl, cond_false]
    have := ih W (gap ++ [x]) m (fun y hy => hf y (by simp [hy])) (by simp) (by simp; omega) hm'
    rw [show W ++ (gap ++ [x]) ++ T = W ++ gap ++ x :: T by simp, show W.length + (gap ++ [x]).length = W.length + gap.length + 1 by simp; omega] at this
    rw [List.filter_cons_of_neg (by simp [hx])]
    exact this
   ·rw [show bnot (bnot true) = true from rfl, cond_true, gd_t (inL_nat (by simp; omega)), gd_t ⟨by omega, hl2⟩]
    cases gap with
    | nil => exact absurd rfl hg
    | cons g gs =>
     have hset : lset (W ++ g :: gs ++ x :: T) (W.length : Int) x = (W ++ [x]) ++ (gs ++ [x]) ++ T := by
      simp [lset]
     have hi : iadd .i64 (W.length : Int) 1 = (((W ++ [x]).length : Nat) : Int) := by rw [iadd_id (by omega) (by omega)]; simp
     have := ih (W ++ [x]) (gs ++ [x]) m (fun y hy => hf y (by simp [hy])) (by simp) (by simp only [List.length_cons] at hl; simp; omega) hm'
     rw [hset, hi, show W.length + (g :: gs).length + 1 = (W ++ [x]).length + (gs ++ [x]).length by simp; omega]
     rw [show W ++ [x] ++ T.filter P = W ++ (x :: T).filter P by rw [List.filter_cons_of_pos hx]; simp] at this
     exact this
theorem delR_eq {X : List (List Int)} (hX : X.length ≤ 2000) (hf : 3000 < fu) (h : ∀ x ∈ X, f x = some (bnot (P x))) : F_slices_DeleteFunc_SSint fu X f = some (X.filter P) := by
 unfold F_slices_DeleteFunc_SSint F_slices_IndexFunc_SSint
 have h1 := idxR_L (fu := fu) (f := f) (P := P) hX X [] 0 fu h rfl rfl (by omega)
 rw [Int.natCast_zero] at h1
 simp only [llen]
 rcases h1 with ⟨A, b, T, e, hA, hb, h1⟩ | ⟨hA, h1⟩
 ·rw [h1, bd_of, Nat.zero_add]
  simp only [lr, bd_of]
  have hl : A.length + (T.length + 1) = X.length := by rw [e]; simp
  rw [ieq_f (by omega), cond_false, iadd_id (by omega) (by omega)]
  obtain ⟨l', d1, d2, d3⟩ := delR_L (fu := fu) (f := f) (P := P) T A [b] fu (fun x hx => h x (by rw [e]; simp [hx])) (by simp) (by simp; omega) (by omega)
  rw [show A ++ [b] ++ T = X by rw [e]; simp, show ((A.length + [b].length : Nat) : Int) = (A.length : Int) + 1 by simp] at d1
  rw [d1, bd_of]
  simp only
  rw [gd_t (inL_nat d3), gd_t trivial, gd_t (inL_nat d3), Int.toNat_natCast, d2, e, List.filter_append, List.filter_cons_of_neg (by simp [hb]), List.filter_eq_self.2 hA]
 ·rw [h1, bd_of]
  simp only [lr, bd_of]
  rw [ieq_t rfl, cond_true, List.filter_eq_self.2 hA]
end
end Go.Proofs.YtogghgecmjnieaaGreat.AL
