/- The law FnExchangesChangeByOne: what the program's functions answer, put together. No condition. -/
import Derived.Test.YtogghgecmjnieaaGreatPXL
import Derived.Test.YtogghgecmjnieaaGreatPA5
import Derived.Test.YtogghgecmjnieaaGreatPDR
import Derived.Test.YtogghgecmjnieaaGreatPXR0
import Derived.Test.YtogghgecmjnieaaGreatPXR1
import Derived.Test.YtogghgecmjnieaaGreatPXR2
import Derived.Test.YtogghgecmjnieaaGreatPXR3
import Derived.Test.YtogghgecmjnieaaGreatPXR4
import Derived.Test.YtogghgecmjnieaaGreatPXR5
import Derived.Test.YtogghgecmjnieaaGreatPXR6
import Derived.Test.YtogghgecmjnieaaGreatPXS0
import Derived.Test.YtogghgecmjnieaaGreatPXS1
import Derived.Test.YtogghgecmjnieaaGreatPXS2
import Derived.KernelRfl
namespace Go.Proofs.YtogghgecmjnieaaGreat.AL
open Go Go.Proofs.YtogghgecmjnieaaGreat.Arch
set_option linter.unusedVariables false
set_option linter.unusedSimpArgs false
set_option maxRecDepth 100000
section
variable {fu : Nat} {p q : List Int}
theorem candB_all (hp : sysB p = true) : candB p = true := sys_ch candB_0 candB_1 candB_2 candB_3 candB_4 candB_5 candB_6 candB_7 candB_8 candB_9 candB_10 candB_11 candB_12 candB_13 candB_14 hp
theorem rowB_all (hp : sysB p = true) : rowB p = true := sys_ch rowB_0 rowB_1 rowB_2 rowB_3 rowB_4 rowB_5 rowB_6 rowB_7 rowB_8 rowB_9 rowB_10 rowB_11 rowB_12 rowB_13 rowB_14 hp
theorem valB_all (hp : sysB p = true) : valB p = true := sys_ch valB_0 valB_1 valB_2 valB_3 valB_4 valB_5 valB_6 valB_7 valB_8 valB_9 valB_10 valB_11 valB_12 valB_13 valB_14 hp
theorem exB_all (hp : sysB p = true) : exB p = true := sys_ch exB_0 exB_1 exB_2 exB_3 exB_4 exB_5 exB_6 exB_7 exB_8 exB_9 exB_10 exB_11 exB_12 exB_13 exB_14 hp
theorem oneB_all (hp : sysB p = true) : oneB p = true := sys_ch oneB_0 oneB_1 oneB_2 oneB_3 oneB_4 oneB_5 oneB_6 oneB_7 oneB_8 oneB_9 oneB_10 oneB_11 oneB_12 oneB_13 oneB_14 hp
theorem sSame_L {a b : List Int} (hl : a.length = b.length) (ha : a.length ≤ 1048576) : ∀ (d k m : Nat), k + d = a.length → d < m →
    ∃ r : LR Bool Int, F_laws_sSame_L1 fu a b (a.length : Int) m (k : Int) = some r ∧ (a.drop k = b.drop k → ∃ z, r = .brk z) ∧ (a.drop k ≠ b.drop k → r = .ret false) := by
  intro d
  induction d with
  | zero =>
    intro k m hk hm
    cases m with
    | zero => omega
    | succ m =>
      simp only [F_laws_sSame_L1]
      rw [ilt_f (by omega), cond_false]
      refine ⟨_, rfl, fun _ => ⟨_, rfl⟩, fun h => ?_⟩
      exact absurd (by rw [List.drop_of_length_le (by omega), List.drop_of_length_le (by omega)]) h
  | succ d ih =>
    intro k m hk hm
    cases m with
    | zero => omega
    | succ m =>
      have h1 : k < a.length := by omega
      have h2 : k < b.length := by omega
      simp only [F_laws_sSame_L1]
      rw [ilt_t (by omega), cond_true, gd_t (inL_nat h1), gd_t (inL_nat h2), gat_nat h1, gat_nat h2, iadd_id (by omega) (by omega), show ((k : Int) + 1) = ((k + 1 : Nat) : Int) by omega]
      have ea : a.drop k = a[k] :: a.drop (k + 1) := List.drop_eq_getElem_cons h1
      have eb : b.drop k = b[k] :: b.drop (k + 1) := List.drop_eq_getElem_cons h2
      by_cases e : a[k] = b[k]
      · rw [ine_f e, cond_false]
        obtain ⟨r, g1, g2, g3⟩ := ih (k + 1) m (by omega) (by omega)
        refine ⟨r, g1, fun h => g2 ?_, fun h => g3 ?_⟩
        · rw [ea, eb] at h
          exact (List.cons.inj h).2
        · intro h'
          exact h (by rw [ea, eb, e, h'])
      · rw [ine_t e, cond_true]
        refine ⟨_, rfl, fun h => ?_, fun _ => rfl⟩
        rw [ea, eb] at h
        exact absurd (List.cons.inj h).1 e
theorem sSame_eq {a b : List Int} (ha : a.length ≤ 1048576) (hf : 1048576 < fu) : F_laws_sSame fu a b = some (decide (a = b)) := by
  unfold F_laws_sSame
  by_cases hl : a.length = b.length
  · rw [ine_f (by simp only [llen]; omega), cond_false]
    obtain ⟨r, g1, g2, g3⟩ := sSame_L (fu := fu) hl ha a.length 0 fu (by omega) (by omega)
    simp only [llen]
    rw [Int.natCast_zero] at g1
    rw [g1, bd_of]
    by_cases e : a = b
    · obtain ⟨z, rfl⟩ := g2 (by simpa using e)
      rw [decide_eq_true e]
      rfl
    · rw [g3 (by simpa using e), decide_eq_false e]
      rfl
  · rw [ine_t (by simp only [llen]; omega), cond_true, decide_eq_false (fun e => hl (by rw [e]))]
theorem sHas_L {a : List Int} (ha : a.length ≤ 1048576) (hf : 1048576 < fu) {X : List (List Int)} (hX : X.length ≤ 1048576) : ∀ (d k m : Nat), k + d = X.length → d < m → a ∈ X.drop k →
    F_laws_sHas_L1 fu a X (X.length : Int) m (k : Int) = some (.ret true) := by
  intro d
  induction d with
  | zero =>
    intro k m hk hm h
    rw [List.drop_of_length_le (by omega)] at h
    cases h
  | succ d ih =>
    intro k m hk hm h
    cases m with
    | zero => omega
    | succ m =>
      have h1 : k < X.length := by omega
      simp only [F_laws_sHas_L1]
      rw [ilt_t (by omega), cond_true, gd_t (inL_nat h1), gat_nat h1, sSame_eq ha hf, bd_of, iadd_id (by omega) (by omega), show ((k : Int) + 1) = ((k + 1 : Nat) : Int) by omega]
      by_cases e : a = X[k]
      · rw [decide_eq_true e, cond_true]
      · rw [decide_eq_false e, cond_false]
        refine ih (k + 1) m (by omega) (by omega) ?_
        rw [List.drop_eq_getElem_cons h1] at h
        rcases List.mem_cons.1 h with h | h
        · exact absurd h e
        · exact h
theorem sHas_eq {a : List Int} (ha : a.length ≤ 1048576) (hf : 1048576 < fu) {X : List (List Int)} (hX : X.length ≤ 1048576) (h : a ∈ X) : F_laws_sHas fu X a = some true := by
  unfold F_laws_sHas
  have := sHas_L (fu := fu) ha hf hX X.length 0 fu (by omega) (by omega) (by simpa using h)
  rw [Int.natCast_zero] at this
  simp only [llen]
  rw [this]
  rfl
theorem sRows_L {X : List (List Int)} (hX : X.length ≤ 1048576) (hl : ∀ x ∈ X, x.length ≤ 1048576) (hf : 1048576 < fu) : ∀ (d k m : Nat), k + d = X.length → d < m →
    F_laws_sSameRows_L1 fu X X (X.length : Int) m (k : Int) = some (.brk (X.length : Int)) := by
  intro d
  induction d with
  | zero =>
    intro k m hk hm
    cases m with
    | zero => omega
    | succ m =>
      have : k = X.length := by omega
      subst this
      simp only [F_laws_sSameRows_L1]
      rw [ilt_f (by omega), cond_false]
  | succ d ih =>
    intro k m hk hm
    cases m with
    | zero => omega
    | succ m =>
      have h1 : k < X.length := by omega
      simp only [F_laws_sSameRows_L1]
      rw [ilt_t (by omega), cond_true, gd_t (inL_nat h1), gd_t (inL_nat h1), gat_nat h1, sSame_eq (hl _ (List.getElem_mem h1)) hf, bd_of, iadd_id (by omega) (by omega), show ((k : Int) + 1) = ((k + 1 : Nat) : Int) by omega,
        decide_eq_true rfl]
      exact ih (k + 1) m (by omega) (by omega)
theorem sRows_eq {X : List (List Int)} (hX : X.length ≤ 1048576) (hl : ∀ x ∈ X, x.length ≤ 1048576) (hf : 1048576 < fu) : F_laws_sSameRows fu X X = some true := by
  unfold F_laws_sSameRows
  rw [ine_f rfl, cond_false]
  have := sRows_L (fu := fu) hX hl hf X.length 0 fu (by omega) (by omega)
  rw [Int.natCast_zero] at this
  simp only [llen]
  rw [this]
  rfl
theorem sys_le (h : sysB p = true) : p.length ≤ 12 := by
  unfold sysB at h
  rw [Bool.and_eq_true, decide_eq_true_eq] at h
  exact h.1
theorem dec_lt : ∀ (n t : Nat), ∀ d ∈ dec n t, d < 8
  | 0, _, d, h => by cases h
  | n + 1, t, d, h => by
    rcases List.mem_cons.1 h with rfl | h
    · exact Nat.mod_lt _ (by omega)
    · exact dec_lt n _ d h
theorem rows_close {f g : List Int → Option Int} : ∀ {C : List (List Int)} {l m : List Nat}, (C.map f) = l.map (fun d : Nat => some (d : Int)) → (C.map g) = m.map (fun d : Nat => some (d : Int)) → close l m = true → (∀ d ∈ l, d < 8) → (∀ d ∈ m, d < 8) →
    ∀ x ∈ C, ∃ a b : Nat, f x = some (a : Int) ∧ g x = some (b : Int) ∧ (a = b + 1 ∨ b = a + 1) ∧ a < 8 ∧ b < 8
  | [], _, _, _, _, _, _, _, x, hx => by cases hx
  | y :: C, [], m, h1, _, _, _, _, _, _ => by cases h1
  | y :: C, a :: l, [], _, h2, _, _, _, _, _ => by cases h2
  | y :: C, a :: l, b :: m, h1, h2, h3, k1, k2, x, hx => by
    simp only [List.map_cons, List.cons.injEq] at h1 h2
    simp only [close, Bool.and_eq_true, Bool.or_eq_true, beq_iff_eq] at h3
    rcases List.mem_cons.1 hx with rfl | hx
    · exact ⟨a, b, h1.1, h2.1, h3.1, k1 a (by simp), k2 b (by simp)⟩
    · exact rows_close h1.2 h2.2 h3.2 (fun d hd => k1 d (by simp [hd])) (fun d hd => k2 d (by simp [hd])) x hx
theorem row_of (hp : sysB p = true) {t : Nat × List Nat × Int} (ht : tab p = some t) : ((cand p.length).map fun x => F_impl_Meander_components 2000000 p x) = (dec (cand p.length).length t.1).map fun d : Nat => some (d : Int) := by
  have h := rowB_all hp
  unfold rowB at h
  rw [ht] at h
  exact eq_of_beq h
theorem val_of (hp : sysB p = true) {t : Nat × List Nat × Int} (ht : tab p = some t) : F_impl_ExchangesOf 2000000 p = some (rowL p.length t.2.1, true) ∧ F_impl_SignOf 2000000 p = some (t.2.2, true) := by
  have h := valB_all hp
  unfold valB at h
  rw [ht] at h
  simp only [Bool.and_eq_true] at h
  exact ⟨eq_of_beq h.1, eq_of_beq h.2⟩
theorem cand_of (hp : sysB p = true) : p ∈ cand p.length := by
  have h := candB_all hp
  unfold candB at h
  simpa using h
theorem ex_len (hp : sysB p = true) {c : Int × Int} (hc : c ∈ csOf p) : sysB (exV p c) = true ∧ (exV p c).length = p.length := by
  obtain ⟨_, _, _, h⟩ := cs_spec hp
  obtain ⟨a, e, _, h1, h2⟩ := h c hc
  unfold exV
  rw [e]
  exact ⟨h1, h2⟩
theorem ex_all (hp : sysB p = true) {c : Int × Int} (hc : c ∈ csOf p) : ∃ (a b : Int) (L : List (List Int)), F_impl_SignOf 2000000 p = some (a, true) ∧ F_impl_SignOf 2000000 (exV p c) = some (b, true) ∧ a = isub .i64 0 b ∧
    F_impl_ExchangesOf 2000000 (exV p c) = some (L, true) ∧ p ∈ L ∧ L.length ≤ 1048576 ∧
    ∀ x, sysB x = true → x.length = p.length → ∃ u v : Nat, F_impl_Meander_components 2000000 (exV p c) x = some (u : Int) ∧ F_impl_Meander_components 2000000 p x = some (v : Int) ∧ (u = v + 1 ∨ v = u + 1) ∧ u < 8 ∧ v < 8 := by
  have h := exB_all hp
  unfold exB at h
  have h := List.all_eq_true.1 h c hc
  obtain ⟨hs, hl⟩ := ex_len hp hc
  split at h
  · rename_i t u e1 e2
    simp only [Bool.and_eq_true, beq_iff_eq] at h
    obtain ⟨h1, h2, h3⟩ := h
    obtain ⟨v1, v2⟩ := val_of hp e1
    obtain ⟨v3, v4⟩ := val_of hs e2
    have r1 := row_of hp e1
    have r2 := row_of hs e2
    rw [hl] at v3 r2
    have hm : p ∈ rowL p.length u.2.1 := by simpa using h3
    have l0 := sys_le hs
    obtain ⟨S, s1, s2, s3, s4⟩ := of_eq (p := exV p c) (by omega)
    rw [v3] at s2
    cases s2
    refine ⟨_, _, _, v2, v4, h2, v3, hm, by simp only at s3; omega, fun x hx hxl => ?_⟩
    have hc := cand_of hx
    rw [hxl] at hc
    obtain ⟨a, b, g1, g2, g3, g4, g5⟩ := rows_close r1 r2 h1 (dec_lt _ _) (dec_lt _ _) x hc
    exact ⟨b, a, g2, g1, g3.symm, g5, g4⟩
  · cases h
theorem L1_free {a b c a' b' c' : List Int} {t t' : Bool} {d d' : List Int} {X X' : List (List Int)} {n n' : Int} {F : List (List Int)} {K : Int} : ∀ (m : Nat) (x y z : Int),
    F_laws_FnExchangesChangeByOne_L1 fu a b c t d X n F K m x y z = F_laws_FnExchangesChangeByOne_L1 fu a' b' c' t' d' X' n' F K m x y z
  | 0, _, _, _ => rfl
  | m + 1, x, y, z => by
    have ih := fun x y z => L1_free (a := a) (b := b) (c := c) (a' := a') (b' := b') (c' := c') (t := t) (t' := t') (d := d) (d' := d') (X := X) (X' := X') (n := n) (n' := n') (F := F) (K := K) m x y z
    simp only [F_laws_FnExchangesChangeByOne_L1, ih]
theorem L2_free {a b c a' b' c' : List Int} {t t' : Bool} {X : List (List Int)} {K : Int} : ∀ (m : Nat) (x : Int),
    F_laws_FnExchangesChangeByOne_L2 fu a b c t p X K m x = F_laws_FnExchangesChangeByOne_L2 fu a' b' c' t' p X K m x
  | 0, _ => rfl
  | m + 1, x => by
    have ih := fun x => L2_free (a := a) (b := b) (c := c) (a' := a') (b' := b') (c' := c') (t := t) (t' := t') (X := X) (K := K) m x
    simp only [F_laws_FnExchangesChangeByOne_L2, ih]
theorem brk_of {α β : Type} {o : Option (LR α β)} (h : brkB o = true) : ∃ z, o = some (.brk z) := by
  unfold brkB at h
  split at h
  · exact ⟨_, rfl⟩
  · cases h
def allB (n : Nat) : Bool := match F_impl_AllSystems 2000000 (n : Int) with
  | some (L, t) => t && (decide (0 < L.length) && (decide (L.length ≤ 132) && L.all fun x => sysB x && decide (x.length = 2 * n)))
  | none => false
theorem allB_all : (List.range 7).all allB = true := by kernel_rfl
theorem as_of {n : Nat} (h : n ≤ 6) : ∃ L, F_impl_AllSystems 2000000 (n : Int) = some (L, true) ∧ 0 < L.length ∧ L.length ≤ 132 ∧ ∀ x ∈ L, sysB x = true ∧ x.length = 2 * n := by
  have h := List.all_eq_true.1 allB_all n (List.mem_range.2 (by omega))
  unfold allB at h
  split at h
  · rename_i L t e
    simp only [Bool.and_eq_true, decide_eq_true_eq, List.all_eq_true] at h
    obtain ⟨rfl, h1, h2, h3⟩ := h
    exact ⟨L, e, h1, h2, h3⟩
  · cases h
theorem count_of {x : List Int} {u : Int} (hp : sysB p = true) (hx : sysB x = true) (hl : p.length = x.length) (h : F_impl_Meander_components 2000000 p x = some u) : F_laws_sCount 2000000 p x = some u := by
  have l1 := sys_le hp
  have l2 := sys_le hx
  unfold F_laws_sCount F_impl_ComponentsOf
  rw [IsPair_eq (by omega) (by omega) (by omega) (by omega), hp, hx, decide_eq_true hl]
  simp [h, bnot]
theorem quo12 : ∀ k : Nat, k < 13 → iquo .i64 (k : Int) 2 = ((k / 2 : Nat) : Int) := by decide
theorem sys_even (hp : sysB p = true) : p.length = 2 * (p.length / 2) := by
  have := (mem_sysN hp).2.1
  omega
theorem L3_eq {more : List Int} {L : List (List Int)} (hm : more.length ≤ 1048576) (h0 : 0 < L.length) (h1 : L.length ≤ 132)
    (h : ∀ x ∈ L, ∃ u v : Nat, F_laws_sCount 2000000 q x = some (u : Int) ∧ F_laws_sCount 2000000 p x = some (v : Int) ∧ (u = v + 1 ∨ v = u + 1) ∧ u ≤ 100 ∧ v ≤ 100) : ∀ (d m y : Nat), y + d = 6 → d < m →
    ∃ z, F_laws_FnExchangesChangeByOne_L3 2000000 more p q L m (y : Int) = some (.brk z) := by
  intro d
  induction d with
  | zero =>
    intro m y hy hm'
    cases m with
    | zero => omega
    | succ m =>
      simp only [F_laws_FnExchangesChangeByOne_L3]
      rw [ilt_f (by omega), cond_false]
      exact ⟨_, rfl⟩
  | succ d ih =>
    intro m y hy hm'
    cases m with
    | zero => omega
    | succ m =>
      simp only [F_laws_FnExchangesChangeByOne_L3]
      have e1 : imul .i64 (y : Int) 11 = ((y * 11 : Nat) : Int) := ((wrF_eq _ _).trans (wrap_id (by omega) (by omega))).trans (by omega)
      have e2 : iadd .i64 ((y * 11 : Nat) : Int) (llen more) = ((y * 11 + more.length : Nat) : Int) := by
        simp only [llen]
        rw [iadd_id (by omega) (by omega)]
        omega
      have e3 : irem ((y * 11 + more.length : Nat) : Int) (llen L) = (((y * 11 + more.length) % L.length : Nat) : Int) := by
        simp only [llen, irem]
        rw [Int.tmod_eq_emod_of_nonneg (by omega)]
        omega
      have hk : (y * 11 + more.length) % L.length < L.length := Nat.mod_lt _ h0
      rw [ilt_t (by omega), cond_true, gd_t (by simp only [llen]; omega), e1, e2, e3, gd_t (inL_nat hk), gat_nat hk]
      obtain ⟨u, v, c1, c2, c3, c4, c5⟩ := h _ (List.getElem_mem hk)
      rw [c1, c2, bd_of, bd_of, isub_id (by omega) (by omega), iadd_id (by omega) (by omega), show ((y : Int) + 1) = ((y + 1 : Nat) : Int) by omega]
      have go := ih m (y + 1) (by omega) (by omega)
      rcases c3 with rfl | rfl
      · rw [ine_f (by omega), cond_false, bd_of, cond_false]
        exact go
      · rw [ine_t (by omega), cond_true, bd_of, ine_f (by omega), cond_false]
        exact go
theorem L4_eq3 {more : List Int} {L : List (List Int)} : ∀ (m : Nat) (y : Int), F_laws_FnExchangesChangeByOne_L4 fu more p q L m y = F_laws_FnExchangesChangeByOne_L3 fu more p q L m y
  | 0, _ => rfl
  | m + 1, y => by simp only [F_laws_FnExchangesChangeByOne_L4, F_laws_FnExchangesChangeByOne_L3, L4_eq3 m]
theorem drawX_ok {x : List Int} (w : Bytes x) : ∃ p i j, F_spec_DrawExchangeAt 2000000 x = some (p, i, j) ∧ p.length ≤ 14 := by
  unfold F_spec_DrawExchangeAt
  obtain ⟨p, a, s, e, a0, a1, lp⟩ := system_ok (fu := 2000000) (n := 6) (x := x) (at' := 0) (seed := 0) (by omega) (by omega) w (by omega) (by omega) (by omega)
  rw [e, bd_of]
  simp only
  rw [good_eq (by omega), bd_of]
  have two : ∀ {a s : Int}, 0 ≤ a → a ≤ 1000 → ∃ p' i j, (bd (F_spec_l1Cur_pick 2000000 x a s (iadd .i64 (llen p) 2)) fun r7 => bd (F_spec_l1Cur_pick 2000000 x r7.2.1 r7.2.2 (iadd .i64 (llen p) 2)) fun r8 => some (p, (isub .i64 r7.1 1), (isub .i64 r8.1 1))) = some (p', i, j) ∧ p'.length ≤ 14 := by
    intro a s a0 a1
    obtain ⟨b, c, t, e1, c0, c1, _⟩ := pick_ok (fu := 2000000) (seed := s) (n := iadd .i64 (llen p) 2) w a0 (by omega)
    rw [e1, bd_of]
    simp only
    obtain ⟨b', c', t', e2, _⟩ := pick_ok (fu := 2000000) (seed := t) (at' := c) (n := iadd .i64 (llen p) 2) w (by omega) (by omega)
    rw [e2, bd_of]
    exact ⟨_, _, _, rfl, lp⟩
  cases hp : sysB p
  · simp only [cond_false, bd_of]
    exact two a0 (by omega)
  · obtain ⟨c1, c2, c3, c4⟩ := cs_spec hp
    rw [cond_true, c2, bd_of]
    by_cases h0 : 0 < (csOf p).length
    · rw [ilt_t (by simp only [llen, List.length_map]; omega), cond_true]
      obtain ⟨b, c, t, e1, g0, g1⟩ := one_ok (fu := 2000000) (seed := s) (n := 3) w a0 (by omega)
      rw [e1, bd_of, bd_of]
      simp only
      cases b
      · simp only [bnot, Bool.not_false, cond_true, bd_of]
        obtain ⟨b', c', t', e2, _, _, k0, k1⟩ := pick_ok (fu := 2000000) (seed := t) (at' := c) (n := llen ((csOf p).map fun x => [x.1, x.2])) w (by omega) (by omega)
        rw [e2, bd_of]
        simp only
        have hb : b'.toNat < (csOf p).length := by
          simp only [llen, List.length_map] at k1
          omega
        have hb2 : b' = ((b'.toNat : Nat) : Int) := by omega
        rw [hb2, gd_t (inL_nat (by simpa using hb)), gatC hb, gd_t ⟨by omega, by simp⟩, gd_t ⟨by omega, by simp⟩]
        exact ⟨_, _, _, rfl, lp⟩
      · simp only [bnot, Bool.not_true, cond_false]
        exact two (by omega) (by omega)
    · rw [ilt_f (by simp only [llen, List.length_map]; omega)]
      simp only [cond_false, bd_of]
      exact two a0 (by omega)
theorem drawS_ok {x : List Int} (w : Bytes x) : ∃ p, F_spec_DrawExchangesOf 2000000 x = some p ∧ p.length ≤ 14 := by
  unfold F_spec_DrawExchangesOf F_spec_DrawIsSystem
  obtain ⟨p, a, s, e, a0, a1, lp⟩ := system_ok (fu := 2000000) (n := 6) (x := x) (at' := 0) (seed := 0) (by omega) (by omega) w (by omega) (by omega) (by omega)
  rw [e, bd_of]
  exact ⟨p, rfl, lp⟩
theorem at_full {i j : Int} (h : p.length ≤ 1048576) : ∃ S : List Int × Bool, F_spec_ExchangeAt 2000000 p i j = some S ∧ F_impl_ExchangeAt 2000000 p i j = some S ∧ S.1.length ≤ 12 ∧ (S.2 = true → sysB p = true ∧ (i, j) ∈ csOf p ∧ S.1 = exV p (i, j)) := by
  unfold F_spec_ExchangeAt F_impl_ExchangeAt
  rw [good_eq h, issys_eq h, bd_of, bd_of]
  cases hp : sysB p
  · exact ⟨_, rfl, rfl, by simp, fun h => by cases h⟩
  · obtain ⟨e1, e2, e3, e4⟩ := cs_spec hp
    have hl : p.length ≤ 12 := sys_le hp
    have c := contains_eq (fu := 2000000) (C := csOf p) (i := i) (j := j) (by omega) (by omega)
    have go : ∀ a : List Int, (memB (csOf p) i j = true → F_spec_exAt 2000000 p i j = some a) → _ := fun a ha => find_L (fu := 2000000) (p := p) (C := csOf p) (i := i) (j := j) (by omega) (a := a) ha (csOf p) [] 0 2000000 rfl rfl (by omega)
    simp only [bnot, Bool.not_true, cond_false, e1, e2, bd_of, c, llen, List.length_map]
    cases hm : memB (csOf p) i j
    · have g := go [] (fun h => by rw [hm] at h; cases h)
      rw [Int.natCast_zero] at g
      rw [g, bd_of, if_neg (by rw [hm]; simp)]
      exact ⟨_, rfl, rfl, by simp, fun h => by cases h⟩
    · obtain ⟨a, f1, f2, f3, f4⟩ := e4 _ (mem_of_memB hm)
      have g := go a (fun _ => f2)
      rw [Int.natCast_zero] at g
      rw [g, bd_of, if_pos hm]
      simp only at f1
      refine ⟨(a, true), rfl, ?_, by simp only; omega, fun _ => ⟨trivial, mem_of_memB hm, ?_⟩⟩
      · simp [f1]
      · simp only [exV, f1, Option.getD_some]
theorem faces_no (h : p.length ≤ 1048576) (hp : sysB p = false) : F_impl_FacesOf 2000000 p = some ([], false) ∧ F_spec_FacesOf 2000000 p = some ([], false) ∧ F_impl_ExchangesOf 2000000 p = some ([], false) ∧ F_spec_ExchangesOf 2000000 p = some ([], false) ∧ F_impl_CountExchanges 2000000 p = some (0, false) := by
  unfold F_impl_FacesOf F_spec_FacesOf F_impl_ExchangesOf F_spec_ExchangesOf F_impl_CountExchanges
  rw [good_eq h, issys_eq h, hp]
  exact ⟨rfl, rfl, rfl, rfl, rfl⟩
end
end Go.Proofs.YtogghgecmjnieaaGreat.AL
