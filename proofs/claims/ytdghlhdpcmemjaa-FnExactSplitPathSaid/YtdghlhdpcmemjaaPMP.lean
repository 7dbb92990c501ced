/- Paths to few and to many curves: the laws MergePath and SplitPath. No condition. -/
import Derived.Test.YtdghlhdpcmemjaaPXP
import Derived.Test.YtdghlhdpcmemjaaPPM
namespace Go.Proofs.Ytdghlhdpcmemjaa.AL
open Go Go.Proofs.Ytdghlhdpcmemjaa.Arch
set_option linter.unusedVariables false
set_option linter.unusedSimpArgs false
set_option maxRecDepth 100000
section
variable {fu : Nat} {p q : List Int}
theorem exm_L {b : List Int} (hb : b.length ≤ 1048576) {X : List (List Int)} (hX : X.length ≤ 2000) : ∀ (rest pre : List (List Int)) (l : List PL) (k m : Nat), pre ++ rest = X → pre.length = k → rest.length < m → l.length ≤ k →
    F_spec_exMeanders_L1 fu b X (X.length : Int) m l (k : Int) = some (l ++ rest.map fun r => (r, b), (X.length : Int)) := by
  intro rest
  induction rest with
  | nil =>
    intro pre l k m hp hk hm hl
    cases m with
    | zero => simp at hm
    | succ m =>
      have : k = X.length := by rw [← hp, ← hk]; simp
      subst this
      simp only [F_spec_exMeanders_L1]
      rw [ilt_f (by omega), cond_false]
      simp
  | cons x rest ih =>
    intro pre l k m hp hk hm hl
    cases m with
    | zero => simp at hm
    | succ m =>
      have hlen : k < X.length := by rw [← hp, ← hk]; simp
      have hg : gat [] X (k : Int) = x := by rw [← hp]; subst hk; simp [gat_eq]
      simp only [F_spec_exMeanders_L1]
      rw [ilt_t (by omega), cond_true, gd_t (inL_nat hlen), gd_t (by omega), hg, own_eq hb, bd_of, gd_t (by omega), iadd_id (by omega) (by omega), show ((k : Int) + 1) = ((k + 1 : Nat) : Int) by omega,
        ih (pre ++ [x]) (lapp l [(x, b)]) (k + 1) m (by rw [← hp]; simp) (by simp [hk]) (by simp at hm; omega) (by simp [lapp]; omega)]
      simp [lapp]
theorem exm_eq {b : List Int} (hb : b.length ≤ 1048576) {X : List (List Int)} (hX : X.length ≤ 2000) (hf : 3000 < fu) : F_spec_exMeanders fu X b = some (X.map fun r => (r, b)) := by
  unfold F_spec_exMeanders
  have := exm_L (fu := fu) hb hX X [] [] 0 fu rfl rfl (by omega) (Nat.le_refl _)
  rw [Int.natCast_zero] at this
  simp only [llen]
  rw [this, bd_of]
  rfl
theorem tpath_L {a b : List Int} (hb : b.length ≤ 1048576) {X : List (List Int)} (hX : X.length ≤ 2000) : ∀ (rest pre : List (List Int)) (l : List PL) (k m : Nat), pre ++ rest = X → pre.length = k → rest.length < m → l.length ≤ k →
    F_impl_turnedPath_L1 fu a b X (X.length : Int) m l (k : Int) = some (l ++ rest.map fun r => (r, b), (X.length : Int)) := by
  intro rest
  induction rest with
  | nil =>
    intro pre l k m hp hk hm hl
    cases m with
    | zero => simp at hm
    | succ m =>
      have : k = X.length := by rw [← hp, ← hk]; simp
      subst this
      simp only [F_impl_turnedPath_L1]
      rw [ilt_f (by omega), cond_false]
      simp
  | cons x rest ih =>
    intro pre l k m hp hk hm hl
    cases m with
    | zero => simp at hm
    | succ m =>
      have hlen : k < X.length := by rw [← hp, ← hk]; simp
      have hg : gat [] X (k : Int) = x := by rw [← hp]; subst hk; simp [gat_eq]
      simp only [F_impl_turnedPath_L1]
      rw [ilt_t (by omega), cond_true, gd_t (inL_nat hlen), gd_t (by omega), hg, clone_eq hb, bd_of, gd_t (by omega), iadd_id (by omega) (by omega), show ((k : Int) + 1) = ((k + 1 : Nat) : Int) by omega,
        ih (pre ++ [x]) (lapp l [(x, b)]) (k + 1) m (by rw [← hp]; simp) (by simp [hk]) (by simp at hm; omega) (by simp [lapp]; omega)]
      simp [lapp]
theorem tpath_eq {a b : List Int} {T : Int} (hb : b.length ≤ 1048576) {X : List (List Int)} (hX : X.length ≤ 2000) (h : F_impl_path 2000000 a b T = some X) : F_impl_turnedPath 2000000 a b T = some (X.map fun r => (r, b)) := by
  unfold F_impl_turnedPath
  have := tpath_L (fu := 2000000) (a := a) hb hX X [] [] 0 2000000 rfl rfl (by omega) (Nat.le_refl _)
  rw [Int.natCast_zero] at this
  rw [h, bd_of]
  simp only [llen]
  rw [this, bd_of]
  rfl
theorem some_eq (ha : p.length ≤ 1048576) (hb : q.length ≤ 1048576) : F_spec_exSome fu p q = some (pairB p q && decide (0 < p.length)) ∧ F_impl_isCut fu p q = some (pairB p q && decide (0 < p.length)) := by
  unfold F_spec_exSome F_impl_isCut F_spec_mePair F_impl_IsPair
  rw [if_pos ⟨by omega, by omega⟩, bd_of]
  cases pairB p q
  · exact ⟨rfl, rfl⟩
  · simp [ilt_eq, llen]
theorem mark_small {X : List (List Int)} (h : ∀ x ∈ X, x.length ≤ 12) (hq : q.length ≤ 12) : ∀ r ∈ X.map (fun r => (r, q)), Small r := fun r hr => by
  obtain ⟨x, hx, rfl⟩ := List.mem_map.1 hr
  have := h x hx
  exact ⟨by simp only; omega, by simp only; omega⟩
theorem split_eq (ha : p.length ≤ 1048576) (hb : q.length ≤ 1048576) : ∃ S : List PL × Bool, F_spec_SplitPath 2000000 p q = some S ∧ F_impl_SplitPath 2000000 p q = some S ∧ S.1.length ≤ 13 ∧ ∀ x ∈ S.1, Small x := by
  unfold F_spec_SplitPath F_impl_SplitPath
  rw [(some_eq ha hb).1, (some_eq ha hb).2, bd_of, bd_of]
  by_cases h : pairB p q = true
  · by_cases h0 : 0 < p.length
    · obtain ⟨L, e1, e2, e3, e4⟩ := up_eq h
      have hq : q.length ≤ 12 := sys_le (pair_of h).2.1
      rw [h, decide_eq_true h0]
      simp only [Bool.and_self, bnot, Bool.not_true, cond_false]
      rw [e2, bd_of, exm_eq hb (by omega) (by omega), bd_of, tpath_eq hb (by omega) e1, bd_of]
      exact ⟨_, rfl, rfl, by simpa using e3, mark_small e4 hq⟩
    · rw [decide_eq_false h0, Bool.and_false]
      exact ⟨_, rfl, rfl, by simp, by simp⟩
  · rw [Bool.not_eq_true] at h
    rw [h, Bool.false_and]
    exact ⟨_, rfl, rfl, by simp, by simp⟩
end
theorem law_SplitPath {a b : List Int} (ha : a.length ≤ 9223372036854775807) (hb : b.length ≤ 9223372036854775807) : F_laws_FnExactSplitPath 2000000 a b = some true := by
  unfold F_laws_FnExactSplitPath
  rw [szMeander_eq (by omega) (by omega) ha hb, bd_of]
  by_cases h1 : (a.length : Int) + (b.length : Int) ≤ 1048576
  · rw [if_pos h1, ilt_f (by omega), cond_false]
    have t1 := toMeander_eq (fu := 2000000) (a := a) (b := b) (by omega) (by omega) (by omega)
    have q1 := eqMeander_eq (fu := 2000000) (a := a) (b := b) (by omega) (by omega) (by omega)
    obtain ⟨S, e1, e2, l1, l2⟩ := split_eq (p := a) (q := b) (by omega) (by omega)
    have hc := cellsP_le l2
    have m0 := markMeander_eq (fu := 2000000) (a := a) (b := b) (m := 1) (by omega) (by omega) (by omega) (by omega) (by omega)
    have m1 := markP_eq (fu := 2000000) (rs := S.1) (m := 1) (by omega) (by omega) (by omega) (by omega) l2
    have h3 := heldP_eq (fu := 2000000) (rs := S.1) (m := 1) (by omega) (by omega) (by omega) (by omega) l2
    have q2 := eqP_eq (fu := 2000000) (rs := S.1) (by omega) (by omega) l2
    have n1 : ilt (1 + (a.length : Int) + (b.length : Int)) 0 = false := ilt_f (by omega)
    have n2 : ilt (1 + (cellsP S.1 : Int)) 0 = false := ilt_f (by omega)
    simp [t1, q1, q2, m0, m1, h3, e1, e2, n1, n2, bnot, bne', ine_eq]
  · rw [if_neg h1, ilt_t (by omega), cond_true]
end Go.Proofs.Ytdghlhdpcmemjaa.AL
