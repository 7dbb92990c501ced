/- The law FnMergedAndSplit. No condition. -/
import Derived.Test.YtogghgecmjnieaaGreatPFF
import Derived.Test.YtogghgecmjnieaaGreatPXF
namespace Go.Proofs.YtogghgecmjnieaaGreat.AL
open Go Go.Proofs.YtogghgecmjnieaaGreat.Arch
set_option linter.unusedVariables false
set_option linter.unusedSimpArgs false
set_option maxRecDepth 100000
section
variable {fu : Nat} {p q r s : List Int}
theorem nxt_ne {k : Int} : ∀ l : List (Int × Int), (∃ c ∈ l, cmpV (exV p c) q = k) → ∃ a, nxtL p q k l = some a
 | [], h => by
  obtain ⟨c, hc, _⟩ := h
  cases hc
 | x :: l, h => by
  unfold nxtL
  by_cases e : cmpV (exV p x) q = k
  ·rw [if_pos e]
   exact ⟨_, rfl⟩
  ·rw [if_neg e]
   obtain ⟨c, hc, hk⟩ := h
   rcases List.mem_cons.1 hc with rfl | hc
   ·exact absurd hk e
   ·exact nxt_ne l ⟨c, hc, hk⟩
theorem nxt_some {by_ : Int} (h : pairB p q = true) (hb : (by_ = 1 ∧ cmpV p q < ((p.length / 2 : Nat) : Int)) ∨ (by_ = -1 ∧ 1 < cmpV p q)) : ∃ a, nxtL p q (cmpV p q + by_) (csOf p) = some a := by
 obtain ⟨d, e1, e2, e3, e4, e5, e6, e7⟩ := pair_all h
 have hc : cmpV p q = (d : Int) := by
  unfold cmpV
  rw [e1]
  rfl
 refine nxt_ne _ ?_
 rcases hb with ⟨rfl, hb⟩ | ⟨rfl, hb⟩
 ·obtain ⟨c, hcm, e⟩ := e7 (by omega)
  refine ⟨c, hcm, ?_⟩
  rw [hc]
  unfold cmpV
  rw [e]
  simp only [Option.getD_some]
  omega
 ·obtain ⟨c, hcm, e⟩ := e6 (by omega)
  refine ⟨c, hcm, ?_⟩
  rw [hc]
  unfold cmpV
  rw [e]
  simp only [Option.getD_some]
  omega
theorem run_at {by_ : Int} (hb : by_ = 1 ∨ by_ = -1) : ∀ (d : Nat) (p : List Int), pairB p q = true → (by_ = 1 → cmpV p q + (d : Int) ≤ ((p.length / 2 : Nat) : Int)) → (by_ = -1 → (d : Int) + 1 ≤ cmpV p q) →
  (p :: runP q by_ d p).length = d + 1 ∧ ∀ (k : Nat) (a : List Int), (p :: runP q by_ d p)[k]? = some a → pairB a q = true ∧ a.length = p.length ∧ cmpV a q = cmpV p q + by_ * (k : Int)
 | 0, p, h, _, _ => by
  refine ⟨by simp [runP], fun k a ha => ?_⟩
  cases k with
  | zero =>
   simp only [List.getElem?_cons_zero, Option.some.injEq] at ha
   subst ha
   exact ⟨h, rfl, by omega⟩
  | succ k => simp [runP] at ha
 | d + 1, p, h, h1, h2 => by
  obtain ⟨a, ha⟩ := nxt_some (by_ := by_) h (by
   rcases hb with rfl | rfl
   ·have := h1 rfl
    exact .inl ⟨rfl, by omega⟩
   ·have := h2 rfl
    exact .inr ⟨rfl, by omega⟩)
  obtain ⟨e1, e2, e3, e4⟩ := nxt_spec h (csOf p) (fun _ hx => hx) a ha
  have hr : runP q by_ (d + 1) p = a :: runP q by_ d a := by
   simp only [runP]
   rw [ha]
  obtain ⟨i1, i2⟩ := run_at hb d a e1 (fun hh => by
   have := h1 hh
   subst hh
   rw [e4, e3]
   omega) (fun hh => by
   have := h2 hh
   subst hh
   rw [e4]
   omega)
  rw [hr]
  refine ⟨by simp only [List.length_cons] at i1 ⊢; omega, fun k b hbk => ?_⟩
  cases k with
  | zero =>
   simp only [List.getElem?_cons_zero, Option.some.injEq] at hbk
   subst hbk
   exact ⟨h, rfl, by omega⟩
  | succ k =>
   simp only [List.getElem?_cons_succ] at hbk
   obtain ⟨j1, j2, j3⟩ := i2 k b hbk
   refine ⟨j1, by omega, ?_⟩
   rw [j3, e4]
   rcases hb with rfl | rfl <;> omega
theorem comps_of (h : pairB p q = true) : F_impl_ComponentsOf 2000000 p q = some (cmpV p q, true) := by
 obtain ⟨h1, h2, h3⟩ := pair_of h
 have l1 := sys_le h1
 have l2 := sys_le h2
 unfold F_impl_ComponentsOf
 rw [IsPair_eq (by omega) (by omega) (by omega) (by omega), h1, h2, decide_eq_true h3, bd_of]
 simp only [Bool.and_self, bnot, Bool.not_true, cond_false]
 rw [comp_eq h, bd_of]
theorem cut_eq (lp : p.length ≤ 100) (lq : q.length ≤ 100) : F_impl_isCut 2000000 p q = some (pairB p q && decide (0 < p.length)) ∧ F_spec_exSome 2000000 p q = some (pairB p q && decide (0 < p.length)) := by
 unfold F_impl_isCut F_spec_exSome
 rw [IsPair_eq (by omega) (by omega) (by omega) (by omega), mePair_eq (by omega) (by omega) (by omega) (by omega), bd_of]
 have : ((sysB p && sysB q) && decide (p.length = q.length)) = pairB p q := rfl
 rw [this]
 cases pairB p q
 ·exact ⟨rfl, rfl⟩
 ·simp [ilt_eq, llen]
theorem cut_no (lp : p.length ≤ 100) (lq : q.length ≤ 100) (h : (pairB p q && decide (0 < p.length)) = false) : F_impl_MergePath 2000000 p q = some ([], false) ∧ F_spec_MergePath 2000000 p q = some ([], false) ∧ F_impl_MergeDistance 2000000 p q = some (0, false) ∧ F_spec_MergeDistance 2000000 p q = some (0, false) ∧
  F_impl_SplitPath 2000000 p q = some ([], false) ∧ F_spec_SplitPath 2000000 p q = some ([], false) := by
 obtain ⟨c1, c2⟩ := cut_eq lp lq
 unfold F_impl_MergePath F_spec_MergePath F_impl_MergeDistance F_spec_MergeDistance F_impl_SplitPath F_spec_SplitPath
 rw [c1, c2, h]
 exact ⟨rfl, rfl, rfl, rfl, rfl, rfl⟩
theorem cut_yes (h : pairB p q = true) (h0 : 0 < p.length) : ∃ (c : Nat) (X Y : List (List Int)), F_impl_MergePath 2000000 p q = some (X.map fun r => (r, q), true) ∧ F_spec_MergePath 2000000 p q = some (X.map fun r => (r, q), true) ∧
  F_impl_MergeDistance 2000000 p q = some ((c : Int) - 1, true) ∧ F_spec_MergeDistance 2000000 p q = some ((c : Int) - 1, true) ∧ F_impl_SplitPath 2000000 p q = some (Y.map fun r => (r, q), true) ∧ F_spec_SplitPath 2000000 p q = some (Y.map fun r => (r, q), true) ∧
  F_impl_ComponentsOf 2000000 p q = some ((c : Int), true) ∧ X.length = c ∧ Y.length = p.length / 2 - c + 1 ∧ 1 ≤ c ∧ c ≤ p.length / 2 ∧ X[0]? = some p ∧ Y[0]? = some p ∧
  (∀ (k : Nat) (a : List Int), X[k]? = some a → pairB a q = true ∧ cmpV a q = (c : Int) - (k : Int)) ∧ (∀ (k : Nat) (a : List Int), Y[k]? = some a → pairB a q = true ∧ a.length = p.length ∧ cmpV a q = (c : Int) + (k : Int)) := by
 obtain ⟨h1, h2, h3⟩ := pair_of h
 have hpl := sys_le h1
 have hql := sys_le h2
 have hc := cmp_le h
 have hc1 := cmp_pos h h0
 obtain ⟨g1, g2⟩ := cut_eq (p := p) (q := q) (by omega) (by omega)
 rw [h, decide_eq_true h0] at g1 g2
 have d1 : cmpV p q + (-1) * (((cmpV p q).toNat - 1 : Nat) : Int) = 1 := by omega
 have d2 : cmpV p q + 1 * ((p.length / 2 - (cmpV p q).toNat : Nat) : Int) = ((p.length / 2 : Nat) : Int) := by omega
 obtain ⟨x1, x2⟩ := path_eq (.inr rfl) h d1 (by omega) (fun a ha hl => by
  have := cmp_pos ha (by omega)
  omega)
 obtain ⟨y1, y2⟩ := path_eq (.inl rfl) h d2 (by omega) (fun a ha hl => by
  have := cmp_le ha
  rw [hl] at this
  omega)
 obtain ⟨r1, r2⟩ := run_at (q := q) (by_ := -1) (.inr rfl) ((cmpV p q).toNat - 1) p h (fun h => by cases h) (fun _ => by omega)
 obtain ⟨s1, s2⟩ := run_at (q := q) (by_ := 1) (.inl rfl) (p.length / 2 - (cmpV p q).toNat) p h (fun _ => by omega) (fun h => by cases h)
 have n1 : bnot (true && true) = false := rfl
 have qy : iquo .i64 (llen p) 2 = ((p.length / 2 : Nat) : Int) := by unfold llen; exact quo12 _ (by omega)
 refine ⟨(cmpV p q).toNat, _, _, ?_, ?_, ?_, ?_, ?_, ?_, ?_, by rw [r1]; omega, by rw [s1], by omega, by omega, rfl, rfl, fun k a ha => ?_, fun k a ha => ?_⟩
 ·unfold F_impl_MergePath
  rw [g1, bd_of, n1, cond_false, tpath_eq (by omega) (by rw [r1]; omega) x1, bd_of]
 ·unfold F_spec_MergePath
  rw [g2, bd_of, n1, cond_false, x2, bd_of, exm_eq (by omega) (by rw [r1]; omega) (by omega), bd_of]
 ·unfold F_impl_MergeDistance
  rw [g1, bd_of, n1, cond_false, comp_eq h, bd_of, isub_id (by omega) (by omega)]
  simp only [Option.some.injEq, Prod.mk.injEq, and_true]
  omega
 ·unfold F_spec_MergeDistance
  rw [g2, bd_of, n1, cond_false, count_me h, bd_of, isub_id (by omega) (by omega)]
  simp only [Option.some.injEq, Prod.mk.injEq, and_true]
  omega
 ·unfold F_impl_SplitPath
  rw [g1, bd_of, n1, cond_false, qy, tpath_eq (by omega) (by rw [s1]; omega) y1, bd_of]
 ·unfold F_spec_SplitPath
  rw [g2, bd_of, n1, cond_false, y2, bd_of, exm_eq (by omega) (by rw [s1]; omega) (by omega), bd_of]
 ·rw [comps_of h]
  simp only [Option.some.injEq, Prod.mk.injEq, and_true]
  omega
 ·obtain ⟨a1, a2, a3⟩ := r2 k a ha
  exact ⟨a1, by omega⟩
 ·obtain ⟨a1, a2, a3⟩ := s2 k a ha
  exact ⟨a1, a2, by omega⟩
theorem samePair_eq {a b : List Int} (ha : a.length ≤ 1048576) (hb : b.length ≤ 1048576) : F_laws_sSamePair 2000000 a b a b = some true := by
 unfold F_laws_sSamePair
 rw [sSame_eq ha (by omega), sSame_eq hb (by omega), decide_eq_true rfl, decide_eq_true rfl]
 rfl
theorem gatM {X : List (List Int)} {k : Nat} {a : List Int} (h : X[k]? = some a) : gat pnil (X.map fun r => (r, q)) (k : Int) = (a, q) := by
 have hk : k < X.length := (List.getElem?_eq_some_iff.1 h).1
 rw [gat_nat (by simpa using hk)]
 have := (List.getElem?_eq_some_iff.1 h).2
 simp [this]
theorem mL1 {A B : List PL} {X : List (List Int)} {n : Int} (hX : X.length ≤ 13) (hn : 0 ≤ n ∧ n ≤ 100) (h : ∀ (k : Nat) (a : List Int), X[k]? = some a → pairB a q = true ∧ cmpV a q = n - (k : Int)) : ∀ (d k m : Nat), k + d = X.length → d < m →
  F_laws_FnMergedAndSplit_L1 2000000 p q (X.map fun r => (r, q)) A B n (X.map fun r => (r, q)) (X.length : Int) m (k : Int) = some (.brk (X.length : Int)) := by
 intro d
 induction d with
 | zero =>
  intro k m hk hm
  cases m with
  | zero => omega
  | succ m =>
   have : k = X.length := by omega
   subst this
   simp only [F_laws_FnMergedAndSplit_L1]
   rw [ilt_f (by omega), cond_false]
 | succ d ih =>
  intro k m hk hm
  cases m with
  | zero => omega
  | succ m =>
   have h1 : k < X.length := by omega
   have hx : X[k]? = some X[k] := List.getElem?_eq_getElem h1
   obtain ⟨a1, a2⟩ := h k _ hx
   obtain ⟨b1, b2, b3⟩ := pair_of a1
   have l1 := sys_le b1
   have l2 := sys_le b2
   have hin : inL (X.map fun r => (r, q)) (k : Int) := inL_nat (by simpa using h1)
   simp only [F_laws_FnMergedAndSplit_L1]
   rw [ilt_t (by omega), cond_true, gd_t hin, gatM hx]
   simp only
   rw [comps_of a1, bd_of, isub_id (by omega) (by omega)]
   simp only [bnot, Bool.not_true, cond_false]
   rw [ine_f a2, cond_false, gd_t hin, samePair_eq (by omega) (by omega), sSame_eq (by omega) (by omega), decide_eq_true rfl, bd_of, bd_of]
   simp only [Bool.not_true, cond_false, bd_of]
   rw [iadd_id (by omega) (by omega), show ((k : Int) + 1) = ((k + 1 : Nat) : Int) by omega]
   exact ih (k + 1) m (by omega) (by omega)
theorem mL2 {X : List (List Int)} {n : Int} (hX : X.length ≤ 13) (hn : 0 ≤ n ∧ n ≤ 100) (h : ∀ (k : Nat) (a : List Int), X[k]? = some a → pairB a q = true ∧ cmpV a q = n + (k : Int)) : ∀ (d k m : Nat), k + d = X.length → d < m →
  F_laws_FnMergedAndSplit_L2 2000000 p q (X.map fun r => (r, q)) (X.map fun r => (r, q)) n (X.length : Int) m (k : Int) = some (.brk (X.length : Int)) := by
 intro d
 induction d with
 | zero =>
  intro k m hk hm
  cases m with
  | zero => omega
  | succ m =>
   have : k = X.length := by omega
   subst this
   simp only [F_laws_FnMergedAndSplit_L2]
   rw [ilt_f (by omega), cond_false]
 | succ d ih =>
  intro k m hk hm
  cases m with
  | zero => omega
  | succ m =>
   have h1 : k < X.length := by omega
   have hx : X[k]? = some X[k] := List.getElem?_eq_getElem h1
   obtain ⟨a1, a2⟩ := h k _ hx
   obtain ⟨b1, b2, b3⟩ := pair_of a1
   have l1 := sys_le b1
   have l2 := sys_le b2
   have hin : inL (X.map fun r => (r, q)) (k : Int) := inL_nat (by simpa using h1)
   simp only [F_laws_FnMergedAndSplit_L2]
   rw [ilt_t (by omega), cond_true, gd_t hin, gatM hx]
   simp only
   rw [comps_of a1, bd_of, iadd_id (a := n) (by omega) (by omega)]
   simp only [bnot, Bool.not_true, cond_false]
   rw [ine_f a2, cond_false, gd_t hin, samePair_eq (by omega) (by omega), sSame_eq (by omega) (by omega), decide_eq_true rfl, bd_of, bd_of]
   simp only [Bool.not_true, cond_false, bd_of]
   rw [iadd_id (by omega) (by omega), show ((k : Int) + 1) = ((k + 1 : Nat) : Int) by omega]
   exact ih (k + 1) m (by omega) (by omega)
theorem drawM_ok {x : List Int} (w : Bytes x) : ∃ p q, F_spec_DrawMergePath 2000000 x = some (p, q) ∧ p.length ≤ 14 ∧ q.length ≤ 14 := by
 unfold F_spec_DrawMergePath F_spec_DrawIsPair F_spec_l1Cur_pair
 have e7 : iadd .i64 6 1 = 7 := rfl
 rw [e7]
 obtain ⟨b, a, s, e, a0, a1, b0, b1⟩ := pick_ok (fu := 2000000) (seed := 0) (at' := 0) (n := 7) w (by omega) (by omega)
 rw [e, bd_of]
 simp only
 obtain ⟨p, a2, s2, e2, c0, c1, lp⟩ := sure_ok (fu := 2000000) (n := b) (seed := s) (at' := a) (by omega) (by omega) w (by omega) (by omega) (by omega)
 rw [e2, bd_of]
 simp only
 obtain ⟨q, a3, s3, e3, d0, d1, lq⟩ := sure_ok (fu := 2000000) (n := b) (seed := s2) (at' := a2) (by omega) (by omega) w (by omega) (by omega) (by omega)
 rw [e3, bd_of]
 simp only
 obtain ⟨v, a4, s4, e4, g0, g1, v0, v1⟩ := pick_ok (fu := 2000000) (seed := s3) (at' := a3) (n := 16) w (by omega) (by omega)
 rw [e4, bd_of]
 simp only
 obtain ⟨t, a5, s5, e5, k0, k1, lt⟩ := system_ok (fu := 2000000) (n := 6) (x := x) (at' := a4) (seed := s4) (by omega) (by omega) w (by omega) (by omega) (by omega)
 rw [e5, bd_of, bd_of]
 simp only
 by_cases h1 : v = 0
 ·rw [ieq_t h1, cond_true, bd_of, bd_of]
  exact ⟨_, _, rfl, lt, by simp only; omega⟩
 rw [ieq_f h1, cond_false]
 by_cases h2 : v = 1
 ·rw [ieq_t h2, cond_true, bd_of, bd_of]
  exact ⟨_, _, rfl, by simp only; omega, lt⟩
 rw [ieq_f h2, cond_false]
 by_cases h3 : v = 2
 ·rw [ieq_t h3, cond_true]
  obtain ⟨y, y1, y2⟩ := rainbow_ok (fu := 2000000) (n := b) (by omega) (by omega) (by omega)
  obtain ⟨z, z1, z2⟩ := flat_ok (fu := 2000000) (n := b) (by omega) (by omega) (by omega)
  rw [y1, z1, bd_of, bd_of, bd_of, bd_of]
  exact ⟨_, _, rfl, by simp only; omega, by simp only; omega⟩
 rw [ieq_f h3, cond_false]
 by_cases h4 : v = 3
 ·rw [ieq_t h4, cond_true, own_eq (by omega), bd_of, bd_of, bd_of]
  exact ⟨_, _, rfl, by simp only; omega, by simp only; omega⟩
 ·rw [ieq_f h4, cond_false, bd_of, bd_of]
  exact ⟨_, _, rfl, by simp only; omega, by simp only; omega⟩
theorem drawF_ok {x : List Int} (w : Bytes x) : ∃ p, F_spec_DrawFarthestFrom 2000000 x = some p ∧ p.length ≤ 14 := by
 unfold F_spec_DrawFarthestFrom
 obtain ⟨p, a, s, e, a0, a1, lp⟩ := system_ok (fu := 2000000) (n := 5) (x := x) (at' := 0) (seed := 0) (by omega) (by omega) w (by omega) (by omega) (by omega)
 rw [e, bd_of]
 exact ⟨p, rfl, lp⟩
end
theorem law_FnMergedAndSplit {code more : List Int} (lc : code.length ≤ maxLen) (wc : ∀ n ∈ code, (Lit.int .u8 n).wf = true) (lm : more.length ≤ maxLen) (wm : ∀ n ∈ more, (Lit.int .u8 n).wf = true) : F_laws_FnMergedAndSplit 2000000 code more = some true := by
 have n1 : bnot true = false := rfl
 have n2 : bnot false = true := rfl
 unfold F_laws_FnMergedAndSplit
 obtain ⟨b, hb⟩ : ∃ b, F_laws_big 2000000 code more = some b := by
  unfold F_laws_big
  cases ilt 1048576 (llen code)
  ·exact ⟨_, rfl⟩
  ·exact ⟨_, rfl⟩
 rw [hb, bd_of]
 cases b
 case true => rfl
 rw [cond_false]
 obtain ⟨p, q, e, lp, lq⟩ := drawM_ok wc
 obtain ⟨s, e3, ls⟩ := drawF_ok wm
 obtain ⟨FS, f1, f2, f3, f4⟩ := far_of (a := s) (by omega)
 obtain ⟨F, t⟩ := FS
 have f5 : F_impl_ClosingWith 2000000 s = some (F, t) := by
  unfold F_impl_FarthestFrom at f2
  cases h : F_impl_ClosingWith 2000000 s with
  | none => rw [h] at f2; cases f2
  | some v =>
   rw [h, bd_of] at f2
   obtain ⟨v1, v2⟩ := v
   exact f2
 simp only at f3 f4
 have hrow := sRows_eq (fu := 2000000) (X := F) (by omega) (fun x hx => by have := f4 x hx; omega) (by omega)
 rw [e, bd_of]
 simp only
 cases hcut : (pairB p q && decide (0 < p.length))
 ·obtain ⟨g1, g2, g3, g4, g5, g6⟩ := cut_no (by omega) (by omega) hcut
  rw [g1, g2, g3, g4, g5, g6, e3]
  simp only [bd_of, bneS, cond_false, ine_f]
  rw [f1, f2, f5]
  simp only [bd_of, bneS, cond_false, hrow, n1, n2, cond_true]
 ·rw [Bool.and_eq_true, decide_eq_true_eq] at hcut
  obtain ⟨h, h0⟩ := hcut
  have hpl := sys_le (pair_of h).1
  have hql := sys_le (pair_of h).2.1
  obtain ⟨c, X, Y, g1, g2, g3, g4, g5, g6, g7, lX, lY, c1, c2, x0, y0, gx, gy⟩ := cut_yes h h0
  have qy : iquo .i64 (llen p) 2 = ((p.length / 2 : Nat) : Int) := by unfold llen; exact quo12 _ (by omega)
  rw [g1, g2, g3, g4, g5, g6, e3]
  simp only [bd_of, bneS, cond_false, ine_f]
  rw [f1, f2, f5]
  simp only [bd_of, bneS, cond_false, hrow, n1]
  rw [g7]
  have a1 : ine ((c : Int) - 1) (isub .i64 (c : Int) 1) = false := ine_f (by rw [isub_id (by omega) (by omega)])
  have a2 : ine (llen (X.map fun r => (r, q))) (c : Int) = false := ine_f (by simp only [llen, List.length_map]; omega)
  have a3 : ine (llen (Y.map fun r => (r, q))) (iadd .i64 (isub .i64 (iquo .i64 (llen p) 2) (c : Int)) 1) = false := ine_f (by
   rw [qy, isub_id (by omega) (by omega), iadd_id (by omega) (by omega)]
   simp only [llen, List.length_map]
   omega)
  have i1 : inL (X.map fun r => (r, q)) 0 := ⟨by omega, by simp only [List.length_map]; omega⟩
  have i2 : inL (Y.map fun r => (r, q)) 0 := ⟨by omega, by simp only [List.length_map]; omega⟩
  have j1 := gatM (q := q) (k := 0) x0
  have j2 := gatM (q := q) (k := 0) y0
  rw [Int.natCast_zero] at j1 j2
  have sp := samePair_eq (a := p) (b := q) (by omega) (by omega)
  simp only [bd_of, n1, cond_false, a1, a2, a3, j1, j2, sp]
  rw [gd_t i1, gd_t i2]
  simp only [bd_of, n1, cond_false]
  have k1 := mL1 (p := p) (q := q) (A := Y.map fun r => (r, q)) (B := Y.map fun r => (r, q)) (X := X) (n := (c : Int)) (by omega) (by omega) gx X.length 0 2000000 (by omega) (by omega)
  have k2 := mL2 (p := p) (q := q) (X := Y) (n := (c : Int)) (by omega) (by omega) (fun k a ha => ⟨(gy k a ha).1, (gy k a ha).2.2⟩) Y.length 0 2000000 (by omega) (by omega)
  rw [Int.natCast_zero] at k1 k2
  simp only [llen, List.length_map] at k1 k2 ⊢
  rw [k1, k2, bd_of]
  simp only [lr, bd_of]
  have hy : Y[p.length / 2 - c]? = some Y[p.length / 2 - c] := List.getElem?_eq_getElem (by omega)
  obtain ⟨m1, m2, m3⟩ := gy _ _ hy
  have m4 := cmp_top m1 (by rw [m3, m2]; omega)
  have ei : isub .i64 (Y.length : Int) 1 = ((p.length / 2 - c : Nat) : Int) := by
   rw [isub_id (by omega) (by omega)]
   omega
  rw [ei, gd_t (inL_nat (by simp only [List.length_map]; omega)), gatM hy]
  simp only
  rw [← m4, sSame_eq (by omega) (by omega), decide_eq_true rfl]
  rfl
end Go.Proofs.YtogghgecmjnieaaGreat.AL
