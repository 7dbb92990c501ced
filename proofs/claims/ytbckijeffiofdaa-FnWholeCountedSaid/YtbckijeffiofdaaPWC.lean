/- The law WholeCounted: whole and simple pairs, counted by the kernel. No condition. -/
import Derived.Test.YtbckijeffiofdaaPC6
import Derived.Test.YtbckijeffiofdaaG1
import Derived.Test.YtbckijeffiofdaaG2
import Derived.Test.YtbckijeffiofdaaG3
import Derived.Test.YtbckijeffiofdaaG4
import Derived.Test.YtbckijeffiofdaaG5
import Derived.Test.YtbckijeffiofdaaG6
import Derived.Test.YtbckijeffiofdaaG7
import Derived.Test.YtbckijeffiofdaaG8
import Derived.Test.YtbckijeffiofdaaG9
import Derived.Test.YtbckijeffiofdaaG10
import Derived.Test.YtbckijeffiofdaaG11
import Derived.Test.YtbckijeffiofdaaG12
import Derived.KernelRfl
namespace Go.Proofs.Ytbckijeffiofdaa.AL
open Go Go.Proofs.Ytbckijeffiofdaa.Arch
set_option linter.unusedVariables false
set_option linter.unusedSimpArgs false
set_option maxRecDepth 100000
theorem iwr_id {a : Int} (h0 : -9223372036854775808 ≤ a) (h1 : a ≤ 9223372036854775807) : iwr .i64 a = a := (wrF_eq _ _).trans (wrap_id h0 h1)
theorem next_cons {fu : Nat} {b : Int} {x : List Int} (h0 : 0 ≤ b) (h1 : b ≤ 255) : ∃ s, F_spec_l1Cur_next fu (b :: x) 0 0 = some (b, 1, s) := by
  unfold F_spec_l1Cur_next
  rw [ilt_t (show (0 : Int) < llen (b :: x) by simp only [llen, List.length_cons]; omega), cond_true, gd_t ⟨Int.le_refl 0, show (0 : Int) < ((b :: x).length : Int) by simp only [List.length_cons]; omega⟩, show gat 0 (b :: x) 0 = b from rfl, iwr_id (by omega) (by omega), bd_of, show iadd .i64 0 1 = 1 from rfl, ile_t (show (1 : Int) ≤ llen (b :: x) by simp only [llen, List.length_cons]; omega), cond_true]
  exact ⟨_, rfl⟩
theorem among7 {fu : Nat} {x : List Int} {l : List Int} (hl : l.length = 7) (w : ∀ n ∈ x, (Lit.int .u8 n).wf = true) : ∃ a c s, F_spec_l1Cur_among fu x 0 0 l = some (a, c, s) ∧ a ∈ l := by
  have key : ∃ (b : Int) (c s : Int), F_spec_l1Cur_next fu x 0 0 = some (b, c, s) ∧ 0 ≤ b := by
    cases x with
    | nil => exact ⟨_, _, _, rfl, by decide⟩
    | cons b x =>
      have h := w b (by simp)
      have h2 : 0 ≤ b ∧ b ≤ 255 := by
        have h : (decide ((0 : Int) ≤ b) && decide (b ≤ 255)) = true := h
        simp only [Bool.and_eq_true, decide_eq_true_eq] at h
        omega
      obtain ⟨s, e⟩ := next_cons (fu := fu) (x := x) h2.1 h2.2
      exact ⟨b, _, s, e, h2.1⟩
  obtain ⟨b, c, s, e, hb⟩ := key
  unfold F_spec_l1Cur_among F_spec_l1Cur_pick
  have hr : irem b 7 = ((b.toNat % 7 : Nat) : Int) := by unfold irem; rw [Int.tmod_eq_emod_of_nonneg hb]; omega
  have hlt : b.toNat % 7 < l.length := by rw [hl]; omega
  rw [show llen l = 7 by simp only [llen, hl]; rfl, ile_f (by omega), cond_false, e, bd_of, ilt_f (by omega), cond_false, gd_t (by decide), bd_of, hr, gd_t (inL_nat hlt), gat_nat hlt]
  exact ⟨_, _, _, rfl, List.getElem_mem hlt⟩
theorem drawAll {fu : Nat} {x : List Int} (w : ∀ n ∈ x, (Lit.int .u8 n).wf = true) : ∃ a, F_spec_DrawAllWhole fu x = some a ∧ a ∈ [(1 : Int), 2, 3, 4, 3, 5, 0] := by
  obtain ⟨a, c, s, e, h⟩ := among7 (fu := fu) (l := [1, 2, 3, 4, 3, 5, 0]) rfl w
  exact ⟨a, by unfold F_spec_DrawAllWhole; rw [e]; rfl, h⟩
theorem drawCount {fu : Nat} {x : List Int} (w : ∀ n ∈ x, (Lit.int .u8 n).wf = true) : ∃ a, F_spec_DrawCountWhole fu x = some a := by
  obtain ⟨a, c, s, e, h⟩ := among7 (fu := fu) (l := [1, 2, 3, 4, 5, 6, 0]) rfl w
  exact ⟨a, by unfold F_spec_DrawCountWhole; rw [e]; rfl⟩
theorem ySame_L {fu : Nat} {xs : List Int} (hx : xs.length ≤ 4294967296) : ∀ (d k n : Nat), k + d = xs.length → d < n → F_laws_ySame_L1 fu xs xs (xs.length : Int) n (k : Int) = some (.brk (xs.length : Int)) := by
  intro d
  induction d with
  | zero =>
    intro k n hk hn
    cases n with
    | zero => omega
    | succ n =>
      have : k = xs.length := by omega
      subst this
      simp only [F_laws_ySame_L1]
      rw [ilt_f (by omega), cond_false]
  | succ d ih =>
    intro k n hk hn
    cases n with
    | zero => omega
    | succ n =>
      simp only [F_laws_ySame_L1]
      rw [ilt_t (by omega), cond_true, gd_t (inL_nat (by omega)), gd_t (inL_nat (by omega)), ine_f rfl, cond_false, iadd_id (by omega) (by omega)]
      exact ih (k + 1) n (by omega) (by omega)
theorem ySame_eq {fu : Nat} {xs : List Int} (hx : xs.length ≤ 4294967296) (hf : xs.length < fu) : F_laws_ySame fu xs xs = some true := by
  unfold F_laws_ySame
  have h := ySame_L (fu := fu) hx xs.length 0 fu (by omega) hf
  rw [Int.natCast_zero] at h
  rw [ine_f rfl, cond_false]
  simp only [llen]
  rw [h]
  rfl
theorem yPairs_L {fu : Nat} {X : List PL} (hX : X.length ≤ 4294967296) (hf : 100000 < fu) (hs : ∀ x ∈ X, Small x) : ∀ (d k n : Nat), k + d = X.length → d < n → F_laws_yPairs_L1 fu X X (X.length : Int) n (k : Int) = some (.brk (X.length : Int)) := by
  intro d
  induction d with
  | zero =>
    intro k n hk hn
    cases n with
    | zero => omega
    | succ n =>
      have : k = X.length := by omega
      subst this
      simp only [F_laws_yPairs_L1]
      rw [ilt_f (by omega), cond_false]
  | succ d ih =>
    intro k n hk hn
    cases n with
    | zero => omega
    | succ n =>
      have hk' : k < X.length := by omega
      obtain ⟨s1, s2⟩ := hs _ (List.getElem_mem hk')
      simp only [F_laws_yPairs_L1, F_laws_yPair]
      rw [ilt_t (by omega), cond_true, gd_t (inL_nat hk'), gd_t (inL_nat hk'), gat_nat hk', ySame_eq (by omega) (by omega), bd_of, cond_true, ySame_eq (by omega) (by omega), bd_of, bd_of, show bnot true = false from rfl, cond_false, iadd_id (by omega) (by omega)]
      exact ih (k + 1) n (by omega) (by omega)
theorem yPairs_eq {fu : Nat} {X : List PL} (hX : X.length ≤ 50000) (hf : 100000 < fu) (hs : ∀ x ∈ X, Small x) : F_laws_yPairs fu X X = some true := by
  unfold F_laws_yPairs
  have h := yPairs_L (fu := fu) (X := X) (by omega) hf hs X.length 0 fu (by omega) (by omega)
  rw [Int.natCast_zero] at h
  rw [ine_f rfl, cond_false]
  simp only [llen]
  rw [h]
  rfl
theorem wcL1 {fu : Nat} {x y : List Int} {X : List PL} {l : Int} : ∀ (n : Nat) (k : Int), F_laws_FnWholeCounted_L1 fu x X l n k = F_laws_FnWholeCounted_L1 fu y X l n k := by
  intro n
  induction n with
  | zero => intro k; rfl
  | succ n ih => intro k; simp only [F_laws_FnWholeCounted_L1, ih]
def wcB (n : Int) : Bool := match F_impl_AllWhole 2000000 n, F_impl_CountWhole 2000000 n, F_impl_CountByPieces 2000000 n, F_impl_CountSimple 2000000 n, F_impl_CountSystems 2000000 n with
  | some (X, true), some (a, true), some (P, true), some (c, true), some (s, true) =>
    ieq a (llen X) && (inLB P 1 && (ieq (gat 0 P 1) a && (inLB P n && (ieq (gat 0 P n) c && (decide (F_laws_ySum 2000000 P = some (imul .i64 s s)) && (inLB P 0 && (ieq (gat 0 P 0) 0 &&
      (match F_laws_FnWholeCounted_L1 2000000 [] X (llen X) 2000000 0 with
       | some (.brk _) => true
       | _ => false))))))))
  | some (_, false), _, _, _, _ => true
  | _, _, _, _, _ => false
theorem wc0 : wcB 0 = true := by kernel_rfl
theorem wc1 : wcB 1 = true := by kernel_rfl
theorem wc2 : wcB 2 = true := by kernel_rfl
theorem wc3 : wcB 3 = true := by kernel_rfl
theorem wc4 : wcB 4 = true := by kernel_rfl
theorem wc5 : wcB 5 = true := by kernel_rfl
theorem wc_all {n : Int} (h : n ∈ [(1 : Int), 2, 3, 4, 3, 5, 0]) : wcB n = true := by
  simp only [List.mem_cons, List.not_mem_nil, or_false] at h
  rcases h with rfl | rfl | rfl | rfl | rfl | rfl | rfl
  · exact wc1
  · exact wc2
  · exact wc3
  · exact wc4
  · exact wc3
  · exact wc5
  · exact wc0
theorem wc_some {n : Int} {X : List PL} (hA : F_impl_AllWhole 2000000 n = some (X, true)) (h : wcB n = true) : ∃ a P c s, F_impl_CountWhole 2000000 n = some (a, true) ∧ F_impl_CountByPieces 2000000 n = some (P, true) ∧ F_impl_CountSimple 2000000 n = some (c, true) ∧ F_impl_CountSystems 2000000 n = some (s, true) ∧
    ieq a (llen X) = true ∧ inLB P 1 = true ∧ ieq (gat 0 P 1) a = true ∧ inLB P n = true ∧ ieq (gat 0 P n) c = true ∧ F_laws_ySum 2000000 P = some (imul .i64 s s) ∧ inLB P 0 = true ∧ ieq (gat 0 P 0) 0 = true ∧ ∃ q, F_laws_FnWholeCounted_L1 2000000 [] X (llen X) 2000000 0 = some (.brk q) := by
  unfold wcB at h
  rw [hA] at h
  cases h1 : F_impl_CountWhole 2000000 n with
  | none => rw [h1] at h; cases h
  | some r1 =>
    rw [h1] at h
    rcases r1 with ⟨a, _ | _⟩
    · cases h
    cases h2 : F_impl_CountByPieces 2000000 n with
    | none => rw [h2] at h; cases h
    | some r2 =>
      rw [h2] at h
      rcases r2 with ⟨P, _ | _⟩
      · cases h
      cases h3 : F_impl_CountSimple 2000000 n with
      | none => rw [h3] at h; cases h
      | some r3 =>
        rw [h3] at h
        rcases r3 with ⟨c, _ | _⟩
        · cases h
        cases h4 : F_impl_CountSystems 2000000 n with
        | none => rw [h4] at h; cases h
        | some r4 =>
          rw [h4] at h
          rcases r4 with ⟨s, _ | _⟩
          · cases h
          simp only [Bool.and_eq_true, decide_eq_true_eq] at h
          obtain ⟨c1, c2, c3, c4, c5, c6, c7, c8, c9⟩ := h
          refine ⟨a, P, c, s, rfl, rfl, rfl, rfl, c1, c2, c3, c4, c5, c6, c7, c8, ?_⟩
          revert c9
          cases F_laws_FnWholeCounted_L1 2000000 [] X (llen X) 2000000 0 with
          | none => intro c9; cases c9
          | some z =>
            cases z with
            | ret b => intro c9; cases c9
            | brk q => intro _; exact ⟨q, rfl⟩
theorem law_FnWholeCounted {code more : List Int} (lc : code.length ≤ maxLen) (wc : ∀ n ∈ code, (Lit.int .u8 n).wf = true) (lm : more.length ≤ maxLen) (wm : ∀ n ∈ more, (Lit.int .u8 n).wf = true) : F_laws_FnWholeCounted 2000000 code more = some true := by
  unfold F_laws_FnWholeCounted
  obtain ⟨b, hb⟩ : ∃ b, F_laws_big 2000000 code more = some b := by
    unfold F_laws_big
    cases ilt 1048576 (llen code)
    · exact ⟨_, rfl⟩
    · exact ⟨_, rfl⟩
  rw [hb, bd_of]
  cases b
  case true => rfl
  obtain ⟨n, hn, hm⟩ := drawAll (fu := 2000000) wc
  obtain ⟨k, hk⟩ := drawCount (fu := 2000000) wm
  obtain ⟨j, hj, _⟩ := drawAll (fu := 2000000) wm
  obtain ⟨S, e1, e2, l1, l2⟩ := allWhole_eq (n := n)
  obtain ⟨C, f1, f2⟩ := countWhole_eq (n := k)
  obtain ⟨Q, g1, g2, g3⟩ := cbp_eq (n := j)
  obtain ⟨T, t1, t2⟩ := countSimple_eq (n := j)
  have hp : F_spec_DrawCountByPieces 2000000 more = some j := by unfold F_spec_DrawCountByPieces; rw [hj]; rfl
  have hq : F_spec_DrawCountSimple 2000000 more = some j := by unfold F_spec_DrawCountSimple; rw [hj]; rfl
  have hy := ySame_eq (fu := 2000000) (xs := Q.1) (by omega) (by omega)
  have hz := yPairs_eq (fu := 2000000) (X := S.1) (by omega) (by omega) l2
  have bs (b : Bool) : bne' b b = false := by cases b <;> rfl
  have bb (b : Bool) : beq' b b = true := by cases b <;> rfl
  have ii (a : Int) : ieq a a = true := ieq_t rfl
  rw [cond_false, hn, bd_of, e2, bd_of, e1, bd_of, bs, cond_false, hz, bd_of, bd_of, show bnot true = false from rfl, cond_false]
  simp only [hk, f1, f2, hp, g1, g2, hq, t1, t2, bd_of, bb, ii, hy, cond_true]
  cases hS : S.2
  · rfl
  · obtain ⟨a, P, c, s, h1, h2, h3, h4, c1, c2, c3, c4, c5, c6, c7, c8, q, c9⟩ := wc_some (X := S.1) (by rw [e2, ← hS]) (wc_all hm)
    have nn {a b : Int} (h : ieq a b = true) : ine a b = false := by rw [ine, h]; rfl
    rw [wcL1 (y := []), c9, h1, h2, h3, h4]
    simp only [bd_of, cond_true, show bnot true = false from rfl, cond_false, nn c1, nn c3, nn c5, nn c8, c6, gd_t (inLB_iff.1 c2), gd_t (inLB_iff.1 c4), gd_t (inLB_iff.1 c7), nn (ii _), lr]
end Go.Proofs.Ytbckijeffiofdaa.AL
