/- Pairs deleted from a list: what is left is what holds; the laws CountSimple, AllWhole and CountWhole hold. No condition. -/
import Derived.Test.YtbckijeffiofdaaPC5
import Derived.Test.YtbckijeffiofdaaG1
import Derived.Test.YtbckijeffiofdaaG2
import Derived.Test.YtbckijeffiofdaaG3
import Derived.Test.YtbckijeffiofdaaG4
import Derived.Test.YtbckijeffiofdaaG5
import Derived.Test.YtbckijeffiofdaaG6
import Derived.Test.YtbckijeffiofdaaG7
import Derived.Test.YtbckijeffiofdaaG8
import Derived.Test.YtbckijeffiofdaaG9
import Derived.Test.YtbckijeffiofdaaG10
import Derived.Test.YtbckijeffiofdaaG11
import Derived.Test.YtbckijeffiofdaaG12
import Derived.KernelRfl
namespace Go.Proofs.Ytbckijeffiofdaa.AL
open Go Go.Proofs.Ytbckijeffiofdaa.Arch
set_option linter.unusedVariables false
set_option linter.unusedSimpArgs false
set_option maxRecDepth 100000
section
variable {fu : Nat} {P : PL → Bool} {f : List Int → List Int → Option Bool}
theorem gatM {pre rest : List PL} {r : PL} {k : Nat} (h : pre.length = k) : gat pnil (pre ++ r :: rest) (k : Int) = r := by
  subst h
  simp [gat_eq]
theorem idx_L {X : List PL} (hX : X.length ≤ 2000) : ∀ (rest pre : List PL) (k m : Nat), (∀ x ∈ rest, f x.1 x.2 = some (bnot (P x))) → pre ++ rest = X → pre.length = k → rest.length < m →
    (∃ A b T, rest = A ++ b :: T ∧ (∀ x ∈ A, P x = true) ∧ P b = false ∧ F_slices_IndexFunc_Simpl_Meander_L1 fu X f (X.length : Int) m (k : Int) = some (.ret ((k + A.length : Nat) : Int))) ∨
    ((∀ x ∈ rest, P x = true) ∧ F_slices_IndexFunc_Simpl_Meander_L1 fu X f (X.length : Int) m (k : Int) = some (.brk (X.length : Int))) := by
  intro rest
  induction rest with
  | nil =>
    intro pre k m hf hp hk hm
    cases m with
    | zero => simp at hm
    | succ m =>
      refine .inr ⟨by simp, ?_⟩
      have : k = X.length := by rw [← hp, ← hk]; simp
      subst this
      simp only [F_slices_IndexFunc_Simpl_Meander_L1]
      rw [ilt_f (by omega), cond_false]
  | cons x rest ih =>
    intro pre k m hf hp hk hm
    cases m with
    | zero => simp at hm
    | succ m =>
      have hlen : k < X.length := by rw [← hp, ← hk]; simp
      have hg : gat pnil X (k : Int) = x := by rw [← hp]; exact gatM hk
      have hin : inL X (k : Int) := inL_nat hlen
      simp only [F_slices_IndexFunc_Simpl_Meander_L1]
      rw [ilt_t (by omega), cond_true, gd_t hin, hg, hf x (by simp), bd_of]
      cases hx : P x
      · exact .inl ⟨[], x, rest, rfl, by simp, hx, by simp [bnot]⟩
      · rw [show bnot true = false from rfl, cond_false, iadd_id (by omega) (by omega), show ((k : Int) + 1) = ((k + 1 : Nat) : Int) by omega]
        rcases ih (pre ++ [x]) (k + 1) m (fun y hy => hf y (by simp [hy])) (by rw [← hp]; simp) (by simp [hk]) (by simp at hm; omega) with ⟨A, b, T, e, hA, hb, h⟩ | ⟨hA, h⟩
        · refine .inl ⟨x :: A, b, T, by rw [e]; rfl, fun y hy => ?_, hb, ?_⟩
          · rcases List.mem_cons.1 hy with rfl | hy
            · exact hx
            · exact hA y hy
          · rw [h]
            simp
            omega
        · refine .inr ⟨fun y hy => ?_, h⟩
          rcases List.mem_cons.1 hy with rfl | hy
          · exact hx
          · exact hA y hy
theorem del_L : ∀ (T W gap : List PL) (m : Nat), (∀ x ∈ T, f x.1 x.2 = some (bnot (P x))) → gap ≠ [] → (W ++ gap ++ T).length ≤ 2000 → T.length < m →
    ∃ l' : List PL, F_slices_DeleteFunc_Simpl_Meander_L1 fu f m (W ++ gap ++ T) (W.length : Int) ((W.length + gap.length : Nat) : Int) = some (l', ((W ++ T.filter P).length : Int), (l'.length : Int)) ∧
      l'.take (W ++ T.filter P).length = W ++ T.filter P ∧ (W ++ T.filter P).length < l'.length := by
  intro T
  induction T with
  | nil =>
    intro W gap m hf hg hl hm
    cases m with
    | zero => simp at hm
    | succ m =>
      have h0 : 0 < gap.length := List.length_pos_iff.2 hg
      refine ⟨W ++ gap, ?_, by simp, by simp; omega⟩
      simp only [F_slices_DeleteFunc_Simpl_Meander_L1, List.append_nil, List.filter_nil, llen]
      rw [ilt_f (by simp), cond_false]
      simp
  | cons x T ih =>
    intro W gap m hf hg hl hm
    cases m with
    | zero => simp at hm
    | succ m =>
      have h0 : 0 < gap.length := List.length_pos_iff.2 hg
      have hgat : gat pnil (W ++ gap ++ x :: T) ((W.length + gap.length : Nat) : Int) = x := gatM (by simp)
      have hin : inL (W ++ gap ++ x :: T) ((W.length + gap.length : Nat) : Int) := inL_nat (by simp)
      have hl2 : (W ++ gap ++ x :: T).length ≤ 4294967296 := by omega
      simp only [List.length_append, List.length_cons] at hl
      have hm' : T.length < m := by simp at hm; omega
      have hstep : iadd .i64 ((W.length + gap.length : Nat) : Int) 1 = ((W.length + gap.length + 1 : Nat) : Int) := by rw [iadd_id (by omega) (by omega)]; omega
      simp only [F_slices_DeleteFunc_Simpl_Meander_L1]
      rw [ilt_t (by simp only [llen, List.length_append, List.length_cons]; omega), cond_true, gd_t hin, gd_t (by omega), gd_t hl2, hgat, hf x (by simp), bd_of, hstep]
      cases hx : P x
      · rw [show bnot (bnot false) = false from rfl, cond_false]
        have := ih W (gap ++ [x]) m (fun y hy => hf y (by simp [hy])) (by simp) (by simp; omega) hm'
        rw [show W ++ (gap ++ [x]) ++ T = W ++ gap ++ x :: T by simp, show W.length + (gap ++ [x]).length = W.length + gap.length + 1 by simp; omega] at this
        rw [List.filter_cons_of_neg (by simp [hx])]
        exact this
      · rw [show bnot (bnot true) = true from rfl, cond_true, gd_t (inL_nat (by simp; omega)), gd_t ⟨by omega, hl2⟩]
        cases gap with
        | nil => exact absurd rfl hg
        | cons g gs =>
          have hset : lset (W ++ g :: gs ++ x :: T) (W.length : Int) (x.1, x.2) = (W ++ [x]) ++ (gs ++ [x]) ++ T := by
            simp [lset]
          have hi : iadd .i64 (W.length : Int) 1 = (((W ++ [x]).length : Nat) : Int) := by rw [iadd_id (by omega) (by omega)]; simp
          have := ih (W ++ [x]) (gs ++ [x]) m (fun y hy => hf y (by simp [hy])) (by simp) (by simp only [List.length_cons] at hl; simp; omega) hm'
          rw [hset, hi, show W.length + (g :: gs).length + 1 = (W ++ [x]).length + (gs ++ [x]).length by simp; omega]
          rw [show W ++ [x] ++ T.filter P = W ++ (x :: T).filter P by rw [List.filter_cons_of_pos hx]; simp] at this
          exact this
theorem del_eq {X : List PL} (hX : X.length ≤ 2000) (hf : 3000 < fu) (h : ∀ x ∈ X, f x.1 x.2 = some (bnot (P x))) : F_slices_DeleteFunc_Simpl_Meander fu X f = some (X.filter P) := by
  unfold F_slices_DeleteFunc_Simpl_Meander F_slices_IndexFunc_Simpl_Meander
  have h1 := idx_L (fu := fu) (f := f) (P := P) hX X [] 0 fu h rfl rfl (by omega)
  rw [Int.natCast_zero] at h1
  simp only [llen]
  rcases h1 with ⟨A, b, T, e, hA, hb, h1⟩ | ⟨hA, h1⟩
  · rw [h1, bd_of, Nat.zero_add]
    simp only [lr, bd_of]
    have hl : A.length + (T.length + 1) = X.length := by rw [e]; simp
    rw [ieq_f (by omega), cond_false, iadd_id (by omega) (by omega)]
    obtain ⟨l', d1, d2, d3⟩ := del_L (fu := fu) (f := f) (P := P) T A [b] fu (fun x hx => h x (by rw [e]; simp [hx])) (by simp) (by simp; omega) (by omega)
    rw [show A ++ [b] ++ T = X by rw [e]; simp, show ((A.length + [b].length : Nat) : Int) = (A.length : Int) + 1 by simp] at d1
    rw [d1, bd_of]
    simp only
    rw [gd_t (inL_nat d3), gd_t trivial, gd_t (inL_nat d3), Int.toNat_natCast, d2, e, List.filter_append, List.filter_cons_of_neg (by simp [hb]), List.filter_eq_self.2 hA]
  · rw [h1, bd_of]
    simp only [lr, bd_of]
    rw [ieq_t rfl, cond_true, List.filter_eq_self.2 hA]
theorem cs_L {X : List PL} (hX : X.length ≤ 2000) : ∀ (rest pre : List PL) (k m c : Nat), (∀ x ∈ rest, F_spec_siSimple fu x.1 x.2 = some (P x)) → pre ++ rest = X → pre.length = k → rest.length < m → c ≤ k →
    F_spec_CountSimple_L1 fu X (X.length : Int) m (c : Int) (k : Int) = some (((c + (rest.filter P).length : Nat) : Int), (X.length : Int)) := by
  intro rest
  induction rest with
  | nil =>
    intro pre k m c hf hp hk hm hc
    cases m with
    | zero => simp at hm
    | succ m =>
      have : k = X.length := by rw [← hp, ← hk]; simp
      subst this
      simp only [F_spec_CountSimple_L1]
      rw [ilt_f (by omega), cond_false]
      simp
  | cons x rest ih =>
    intro pre k m c hf hp hk hm hc
    cases m with
    | zero => simp at hm
    | succ m =>
      have hlen : k < X.length := by rw [← hp, ← hk]; simp
      have hg : gat pnil X (k : Int) = x := by rw [← hp]; exact gatM hk
      simp only [F_spec_CountSimple_L1]
      rw [ilt_t (by omega), cond_true, gd_t (inL_nat hlen), hg, hf x (by simp), bd_of, iadd_id (a := (k : Int)) (by omega) (by omega), iadd_id (a := (c : Int)) (by omega) (by omega), show ((k : Int) + 1) = ((k + 1 : Nat) : Int) by omega]
      have i1 := ih (pre ++ [x]) (k + 1) m
      cases hx : P x
      · rw [cond_false, i1 c (fun y hy => hf y (by simp [hy])) (by rw [← hp]; simp) (by simp [hk]) (by simp at hm; omega) (by omega), List.filter_cons_of_neg (by simp [hx])]
      · rw [cond_true, show ((c : Int) + 1) = ((c + 1 : Nat) : Int) by omega, i1 (c + 1) (fun y hy => hf y (by simp [hy])) (by rw [← hp]; simp) (by simp [hk]) (by simp at hm; omega) (by omega), List.filter_cons_of_pos hx, List.length_cons]
        congr 3
        omega
theorem cw_L {X : List PL} (hX : X.length ≤ 2000) : ∀ (rest pre : List PL) (k m c : Nat), (∀ x ∈ rest, F_spec_siWhole fu x.1 x.2 = some (P x)) → pre ++ rest = X → pre.length = k → rest.length < m → c ≤ k →
    F_spec_CountWhole_L1 fu X (X.length : Int) m (c : Int) (k : Int) = some (((c + (rest.filter P).length : Nat) : Int), (X.length : Int)) := by
  intro rest
  induction rest with
  | nil =>
    intro pre k m c hf hp hk hm hc
    cases m with
    | zero => simp at hm
    | succ m =>
      have : k = X.length := by rw [← hp, ← hk]; simp
      subst this
      simp only [F_spec_CountWhole_L1]
      rw [ilt_f (by omega), cond_false]
      simp
  | cons x rest ih =>
    intro pre k m c hf hp hk hm hc
    cases m with
    | zero => simp at hm
    | succ m =>
      have hlen : k < X.length := by rw [← hp, ← hk]; simp
      have hg : gat pnil X (k : Int) = x := by rw [← hp]; exact gatM hk
      simp only [F_spec_CountWhole_L1]
      rw [ilt_t (by omega), cond_true, gd_t (inL_nat hlen), hg, hf x (by simp), bd_of, iadd_id (a := (k : Int)) (by omega) (by omega), iadd_id (a := (c : Int)) (by omega) (by omega), show ((k : Int) + 1) = ((k + 1 : Nat) : Int) by omega]
      have i1 := ih (pre ++ [x]) (k + 1) m
      cases hx : P x
      · rw [cond_false, i1 c (fun y hy => hf y (by simp [hy])) (by rw [← hp]; simp) (by simp [hk]) (by simp at hm; omega) (by omega), List.filter_cons_of_neg (by simp [hx])]
      · rw [cond_true, show ((c : Int) + 1) = ((c + 1 : Nat) : Int) by omega, i1 (c + 1) (fun y hy => hf y (by simp [hy])) (by rw [← hp]; simp) (by simp [hk]) (by simp at hm; omega) (by omega), List.filter_cons_of_pos hx, List.length_cons]
        congr 3
        omega
theorem aw_L {X : List PL} (hX : X.length ≤ 2000) : ∀ (rest pre l : List PL) (k m : Nat), (∀ x ∈ rest, F_spec_siWhole fu x.1 x.2 = some (P x)) → pre ++ rest = X → pre.length = k → rest.length < m → l.length ≤ k →
    F_spec_AllWhole_L1 fu X (X.length : Int) m l (k : Int) = some (l ++ rest.filter P, (X.length : Int)) := by
  intro rest
  induction rest with
  | nil =>
    intro pre l k m hf hp hk hm hc
    cases m with
    | zero => simp at hm
    | succ m =>
      have : k = X.length := by rw [← hp, ← hk]; simp
      subst this
      simp only [F_spec_AllWhole_L1]
      rw [ilt_f (by omega), cond_false]
      simp
  | cons x rest ih =>
    intro pre l k m hf hp hk hm hc
    cases m with
    | zero => simp at hm
    | succ m =>
      have hlen : k < X.length := by rw [← hp, ← hk]; simp
      have hg : gat pnil X (k : Int) = x := by rw [← hp]; exact gatM hk
      simp only [F_spec_AllWhole_L1]
      rw [ilt_t (by omega), cond_true, gd_t (inL_nat hlen), gd_t (by omega), hg, hf x (by simp), bd_of, iadd_id (a := (k : Int)) (by omega) (by omega), show ((k : Int) + 1) = ((k + 1 : Nat) : Int) by omega]
      cases hx : P x
      · rw [cond_false, ih (pre ++ [x]) l (k + 1) m (fun y hy => hf y (by simp [hy])) (by rw [← hp]; simp) (by simp [hk]) (by simp at hm; omega) (by omega), List.filter_cons_of_neg (by simp [hx])]
      · rw [cond_true, gd_t (by omega), ih (pre ++ [x]) (lapp l [(x.1, x.2)]) (k + 1) m (fun y hy => hf y (by simp [hy])) (by rw [← hp]; simp) (by simp [hk]) (by simp at hm; omega) (by simp [lapp]; omega), List.filter_cons_of_pos hx]
        simp [lapp]
theorem lists5 : listsB 5 = true := by kernel_rfl
theorem lists_all {n : Int} (h0 : 1 ≤ n) (h1 : n ≤ 5) : listsB n = true := by
  rcases (by omega : n = 1 ∨ n = 2 ∨ n = 3 ∨ n = 4 ∨ n = 5) with rfl | rfl | rfl | rfl | rfl
  · exact lists1
  · exact lists2
  · exact lists3
  · exact lists4
  · exact lists5
def simP (fu : Nat) (x : PL) : Bool := (F_spec_siSimple fu x.1 x.2).getD false
def whoP (fu : Nat) (x : PL) : Bool := (F_spec_siWhole fu x.1 x.2).getD false
theorem simP_eq {x : PL} (h1 : x.1.length = x.2.length) (h2 : x.1.length ≤ 100) (hf : 100000 < fu) (h3 : Joint x.1) (h4 : Joint x.2) : F_spec_siSimple fu x.1 x.2 = some (simP fu x) ∧ F_impl_CountSimple_1 fu x.1 x.2 = some (bnot (simP fu x)) := by
  obtain ⟨R, r1, r2, r3, r4, _⟩ := pieces_eq (fu := fu) (b := false) h1 h2 hf h3 h4
  unfold simP F_impl_CountSimple_1 F_spec_siSimple F_impl_Meander_isSimple
  rw [r1, r2]
  exact ⟨rfl, rfl⟩
theorem whoP_eq {x : PL} (h1 : x.1.length = x.2.length) (h2 : x.1.length ≤ 100) (hf : 100000 < fu) : F_spec_siWhole fu x.1 x.2 = some (whoP fu x) ∧ F_impl_wholes_1 fu x.1 x.2 = some (bnot (whoP fu x)) := by
  obtain ⟨S, s1, s2, s3⟩ := siAll_eq (fu := fu) h1 h2 (by omega)
  unfold whoP F_impl_wholes_1 F_impl_Meander_isWhole F_spec_siWhole
  rw [str_eq, s1]
  cases ilt 0 (llen x.1)
  · exact ⟨rfl, rfl⟩
  · exact ⟨rfl, rfl⟩
theorem countSimple_eq {n : Int} : ∃ S : Int × Bool, F_spec_CountSimple 2000000 n = some S ∧ F_impl_CountSimple 2000000 n = some S := by
  unfold F_spec_CountSimple F_impl_CountSimple
  rw [l1In_eq, in_eq, bd_of, bd_of]
  cases h : (decide (1 ≤ n) && decide (n ≤ 4))
  · exact ⟨_, rfl, rfl⟩
  · simp only [Bool.and_eq_true, decide_eq_true_eq] at h
    obtain ⟨X, e1, e2, h1, h2⟩ := pairs_at (lists_all h.1 (by omega)) (by omega)
    have hs : ∀ x ∈ X, F_spec_siSimple 2000000 x.1 x.2 = some (simP 2000000 x) ∧ F_impl_CountSimple_1 2000000 x.1 x.2 = some (bnot (simP 2000000 x)) := fun x hx => by
      obtain ⟨a1, a2, a3, a4⟩ := h2 x hx
      exact simP_eq a3 (by omega) (by omega) a1 a2
    have c := cs_L (fu := 2000000) (P := simP 2000000) (X := X) (by omega) X [] 0 2000000 0 (fun x hx => (hs x hx).1) rfl rfl (by omega) (Nat.le_refl _)
    have d := del_eq (fu := 2000000) (P := simP 2000000) (X := X) (f := fun y0_0 y0_1 => F_impl_CountSimple_1 2000000 y0_0 y0_1) (by omega) (by omega) (fun x hx => (hs x hx).2)
    rw [Int.natCast_zero] at c
    rw [show bnot true = false from rfl, cond_false, cond_false, e1, e2, bd_of, bd_of, d, bd_of]
    simp only [llen]
    rw [c, bd_of]
    exact ⟨_, rfl, by simp⟩
theorem countWhole_eq {n : Int} : ∃ S : Int × Bool, F_spec_CountWhole 2000000 n = some S ∧ F_impl_CountWhole 2000000 n = some S := by
  unfold F_spec_CountWhole F_impl_CountWhole F_impl_wholes
  rw [l1In_eq, in_eq, bd_of, bd_of]
  cases h : (decide (1 ≤ n) && decide (n ≤ 5))
  · exact ⟨_, rfl, rfl⟩
  · simp only [Bool.and_eq_true, decide_eq_true_eq] at h
    obtain ⟨X, e1, e2, h1, h2⟩ := pairs_at (lists_all h.1 (by omega)) (by omega)
    have hs : ∀ x ∈ X, F_spec_siWhole 2000000 x.1 x.2 = some (whoP 2000000 x) ∧ F_impl_wholes_1 2000000 x.1 x.2 = some (bnot (whoP 2000000 x)) := fun x hx => by
      obtain ⟨a1, a2, a3, a4⟩ := h2 x hx
      exact whoP_eq a3 (by omega) (by omega)
    have c := cw_L (fu := 2000000) (P := whoP 2000000) (X := X) (by omega) X [] 0 2000000 0 (fun x hx => (hs x hx).1) rfl rfl (by omega) (Nat.le_refl _)
    have d := del_eq (fu := 2000000) (P := whoP 2000000) (X := X) (f := fun y0_0 y0_1 => F_impl_wholes_1 2000000 y0_0 y0_1) (by omega) (by omega) (fun x hx => (hs x hx).2)
    rw [Int.natCast_zero] at c
    rw [show bnot true = false from rfl, cond_false, cond_false, e1, e2, bd_of, bd_of, d, bd_of, bd_of]
    simp only [llen]
    rw [c, bd_of]
    exact ⟨_, rfl, by simp⟩
theorem allWhole_eq {n : Int} : ∃ S : List PL × Bool, F_spec_AllWhole 2000000 n = some S ∧ F_impl_AllWhole 2000000 n = some S ∧ S.1.length ≤ 2000 ∧ ∀ x ∈ S.1, Small x := by
  unfold F_spec_AllWhole F_impl_AllWhole F_impl_wholes
  rw [l1In_eq, in_eq, bd_of, bd_of]
  cases h : (decide (1 ≤ n) && decide (n ≤ 4))
  · exact ⟨_, rfl, rfl, by simp, by simp⟩
  · simp only [Bool.and_eq_true, decide_eq_true_eq] at h
    obtain ⟨X, e1, e2, h1, h2⟩ := pairs_at (lists_all h.1 (by omega)) (by omega)
    have hs : ∀ x ∈ X, F_spec_siWhole 2000000 x.1 x.2 = some (whoP 2000000 x) ∧ F_impl_wholes_1 2000000 x.1 x.2 = some (bnot (whoP 2000000 x)) := fun x hx => by
      obtain ⟨a1, a2, a3, a4⟩ := h2 x hx
      exact whoP_eq a3 (by omega) (by omega)
    have c := aw_L (fu := 2000000) (P := whoP 2000000) (X := X) (by omega) X [] [] 0 2000000 (fun x hx => (hs x hx).1) rfl rfl (by omega) (Nat.le_refl _)
    have d := del_eq (fu := 2000000) (P := whoP 2000000) (X := X) (f := fun y0_0 y0_1 => F_impl_wholes_1 2000000 y0_0 y0_1) (by omega) (by omega) (fun x hx => (hs x hx).2)
    rw [Int.natCast_zero] at c
    rw [show bnot true = false from rfl, cond_false, cond_false, e1, e2, bd_of, bd_of, d, bd_of, bd_of]
    simp only [llen]
    rw [c, bd_of]
    have hle := List.length_filter_le (whoP 2000000) X
    refine ⟨_, rfl, rfl, by simp only [List.nil_append]; omega, fun x hx => ?_⟩
    have hx' : x ∈ X := (List.mem_filter.1 (by simpa using hx)).1
    obtain ⟨a1, a2, a3, a4⟩ := h2 x hx'
    exact ⟨by omega, by omega⟩
end
end Go.Proofs.Ytbckijeffiofdaa.AL
