/- The law FnExchangesChangeByOne. No condition. -/
import Derived.Test.YtogghgecmjnieaaGreatPXE
import Derived.KernelRfl
namespace Go.Proofs.YtogghgecmjnieaaGreat.AL
open Go Go.Proofs.YtogghgecmjnieaaGreat.Arch
set_option linter.unusedVariables false
set_option linter.unusedSimpArgs false
set_option maxRecDepth 100000
def faB (p : List Int) : Bool := match F_impl_FacesOf 2000000 p with
  | some (f, _) => decide (f.length ≤ 13) && f.all fun x => decide (x.length ≤ 24)
  | none => false
theorem faB_0 : c0.all faB = true := by kernel_rfl
theorem faB_1 : c1.all faB = true := by kernel_rfl
theorem faB_2 : c2.all faB = true := by kernel_rfl
theorem faB_3 : c3.all faB = true := by kernel_rfl
theorem faB_4 : c4.all faB = true := by kernel_rfl
theorem faB_5 : c5.all faB = true := by kernel_rfl
theorem faB_6 : c6.all faB = true := by kernel_rfl
theorem faB_7 : c7.all faB = true := by kernel_rfl
theorem faB_8 : c8.all faB = true := by kernel_rfl
theorem faB_9 : c9.all faB = true := by kernel_rfl
theorem faB_10 : c10.all faB = true := by kernel_rfl
theorem faB_11 : c11.all faB = true := by kernel_rfl
theorem faB_12 : c12.all faB = true := by kernel_rfl
theorem faB_13 : c13.all faB = true := by kernel_rfl
theorem faB_14 : c14.all faB = true := by kernel_rfl
theorem bneS (b : Bool) : bne' b b = false := by cases b <;> rfl
section
variable {p r s : List Int}
theorem one_of (hp : sysB p = true) : ∃ (F L : List (List Int)) (c : Int), F_impl_FacesOf 2000000 p = some (F, true) ∧ F_spec_FacesOf 2000000 p = some (F, true) ∧ F_impl_ExchangesOf 2000000 p = some (L, true) ∧ F_impl_CountExchanges 2000000 p = some (c, true) ∧
    F_laws_FnExchangesChangeByOne_L1 2000000 [] [] [] false [] [] 0 F (llen F) 2000000 0 0 0 = some (c, llen p, llen F) ∧ llen L = c ∧ llen F = iadd .i64 (iquo .i64 (llen p) 2) 1 ∧
    (∃ z, F_laws_FnExchangesChangeByOne_L2 2000000 [] [] [] false p L (llen L) 2000000 0 = some (.brk z)) ∧ F.length ≤ 13 ∧ ∀ x ∈ F, x.length ≤ 24 := by
  have h := oneB_all hp
  have h' := sys_ch faB_0 faB_1 faB_2 faB_3 faB_4 faB_5 faB_6 faB_7 faB_8 faB_9 faB_10 faB_11 faB_12 faB_13 faB_14 hp
  unfold oneB at h
  unfold faB at h'
  split at h
  · rename_i f t g u l v c w e1 e2 e3 e4
    rw [e1] at h'
    simp only [Bool.and_eq_true, beq_iff_eq, decide_eq_true_eq, List.all_eq_true] at h h'
    obtain ⟨⟨⟨rfl, rfl, rfl⟩, rfl, rfl⟩, ⟨a1, a2, a3⟩, a4⟩ := h
    exact ⟨_, _, _, e1, e2, e3, e4, a1, a2, a3, brk_of a4, h'.1, h'.2⟩
  · cases h
theorem tail_eq {i j : Int} {t : Bool} (lp : p.length ≤ 14) (lr' : r.length ≤ 12) (hS : t = true → sysB p = true ∧ (i, j) ∈ csOf p ∧ r = exV p (i, j)) (LL : List (List Int) → Option Bool)
    (hLL : ∀ L : List (List Int), 0 < L.length → L.length ≤ 132 → (∀ x ∈ L, ∃ u v : Nat, F_laws_sCount 2000000 r x = some (u : Int) ∧ F_laws_sCount 2000000 p x = some (v : Int) ∧ (u = v + 1 ∨ v = u + 1) ∧ u ≤ 100 ∧ v ≤ 100) → LL L = some true) :
    (bif (bnot t) then
              some true
            else
              bd (F_impl_AllSystems 2000000 (iquo .i64 (llen p) 2)) fun r16 =>
              bd (F_impl_ExchangesOf 2000000 r) fun r17 =>
              bd (F_impl_SignOf 2000000 p) fun r18 =>
              bd (F_impl_SignOf 2000000 r) fun r19 =>
              bd (
                bif (bnot r16.2) then
                  some true
                else
                  bif (bnot r17.2) then
                    some true
                  else
                    bif (bnot r18.2) then
                      some true
                    else
                      bif (bnot r19.2) then
                        some true
                      else
                        bd (F_impl_IsSystem 2000000 r) fun r20 =>
                        bif (bnot r20) then
                          some true
                        else
                          bd (F_laws_sHas 2000000 r17.1 p) fun r21 =>
                          bif (bnot r21) then
                            some true
                          else
                            some (ine r18.1 (isub .i64 0 r19.1))) fun s217 =>
              bif s217 then
                some false
              else
                LL r16.1) = some true := by
  cases t
  · rfl
  obtain ⟨hp, hc, rfl⟩ := hS rfl
  obtain ⟨hs, hl⟩ := ex_len hp hc
  obtain ⟨a, b, L, f1, f2, f3, f4, f5, f6, f7⟩ := ex_all hp hc
  have l1 := sys_le hp
  have ev := sys_even hp
  obtain ⟨X, x1, x2, x3, x4⟩ := as_of (n := p.length / 2) (by omega)
  have n1 : bnot true = false := rfl
  simp only [llen]
  rw [quo12 _ (by omega), x1, f1, f2, f4]
  simp only [bd_of, n1, cond_false]
  rw [issys_eq (by omega), hs, bd_of, n1, cond_false, sHas_eq (by omega) (by omega) f6 f5, bd_of, n1, cond_false, bd_of, ine_f f3, cond_false]
  refine hLL X x2 x3 fun x hx => ?_
  obtain ⟨y1, y2⟩ := x4 x hx
  obtain ⟨u, v, g1, g2, g3, g4, g5⟩ := f7 x y1 (by omega)
  exact ⟨u, v, count_of hs y1 (by omega) g1, count_of hp y1 (by omega) g2, g3, by omega, by omega⟩
end
theorem law_FnExchangesChangeByOne {code more : List Int} (lc : code.length ≤ maxLen) (wc : ∀ n ∈ code, (Lit.int .u8 n).wf = true) (lm : more.length ≤ maxLen) (wm : ∀ n ∈ more, (Lit.int .u8 n).wf = true) : F_laws_FnExchangesChangeByOne 2000000 code more = some true := by
  have n1 : bnot true = false := rfl
  have n2 : bnot false = true := rfl
  unfold F_laws_FnExchangesChangeByOne
  have hb : F_laws_big 2000000 code more = some true ∨ (F_laws_big 2000000 code more = some false ∧ more.length ≤ 1048576) := by
    unfold F_laws_big
    by_cases h : (1048576 : Int) < llen code
    · rw [ilt_t h]
      exact .inl rfl
    · rw [ilt_f h, cond_false, isub_id (by simp only [llen] at h ⊢; omega) (by simp only [llen] at h ⊢; omega)]
      by_cases h2 : 1048576 - llen code < llen more
      · rw [ilt_t h2]
        exact .inl rfl
      · rw [ilt_f h2]
        exact .inr ⟨rfl, by simp only [llen] at h2; omega⟩
  rcases hb with hb | ⟨hb, hm⟩
  · rw [hb, bd_of]
    rfl
  rw [hb, bd_of, cond_false]
  obtain ⟨p, i, j, e, lp⟩ := drawX_ok wc
  obtain ⟨S, e1, e2, lS, hS⟩ := at_full (p := p) (i := i) (j := j) (by omega)
  obtain ⟨r, t⟩ := S
  obtain ⟨s, e3, ls⟩ := drawS_ok wm
  simp only at lS hS
  rw [e, bd_of]
  simp only
  rw [e1, e2, bd_of, bd_of]
  simp only [bneS, cond_false]
  rw [sSame_eq (by omega) (by omega), decide_eq_true rfl]
  simp only [bd_of, n1, cond_false]
  rw [e3, bd_of]
  have fin3 := tail_eq lp lS hS (fun L => bd (F_laws_FnExchangesChangeByOne_L3 2000000 more p r L 2000000 0) fun s3 => lr s3 fun s3 => some true) (fun L h0 h1 h => by
    obtain ⟨z, hz⟩ := L3_eq (p := p) (q := r) hm h0 h1 h 6 2000000 0 (by omega) (by omega)
    rw [Int.natCast_zero] at hz
    rw [hz]
    rfl)
  have fin4 := tail_eq lp lS hS (fun L => bd (F_laws_FnExchangesChangeByOne_L4 2000000 more p r L 2000000 0) fun s3 => lr s3 fun s3 => some true) (fun L h0 h1 h => by
    obtain ⟨z, hz⟩ := L3_eq (p := p) (q := r) hm h0 h1 h 6 2000000 0 (by omega) (by omega)
    rw [Int.natCast_zero] at hz
    rw [L4_eq3, hz]
    rfl)
  cases hs : sysB s
  · obtain ⟨g1, g2, g3, g4, g5⟩ := faces_no (by omega) hs
    rw [g1, g2, g3, g4, g5]
    simp only [bd_of, bneS, cond_false]
    rw [sRows_eq (X := []) (by simp) (by simp) (by omega)]
    simp only [bd_of, n1, cond_false, bneS]
    exact fin4
  · obtain ⟨F, L, c, g1, g2, g3, g4, g5, g6, g7, ⟨z, g8⟩, g9, g10⟩ := one_of hs
    obtain ⟨S, k1, k2, k3, k4⟩ := of_eq (p := s) (by omega)
    rw [g3] at k2
    cases k2
    simp only at k3 k4
    rw [g1, g2, g3, k1, g4]
    simp only [bd_of, bneS, cond_false]
    rw [sRows_eq (X := L) (by omega) (fun x hx => by have := k4 x hx; omega) (by omega), sRows_eq (X := F) (by omega) (fun x hx => by have := g10 x hx; omega) (by omega)]
    simp only [bd_of, n1, cond_false, cond_true, bneS]
    rw [L1_free (a' := []) (b' := []) (c' := []) (t' := false) (d' := []) (X' := []) (n' := 0), g5, L2_free (a' := []) (b' := []) (c' := []) (t' := false), g8]
    simp only [bd_of]
    rw [ine_f rfl, cond_false, ine_f g6, cond_false, ine_f rfl, cond_false, ine_f g7, bd_of, cond_false]
    simp only [lr, bd_of]
    exact fin3
end Go.Proofs.YtogghgecmjnieaaGreat.AL
