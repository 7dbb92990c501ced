/- Which states are states: the program's and the reference's word. No condition. -/
import Derived.Test.YtdbflchpbhkanaaPD5
import Derived.Test.YtdbflchpbhkanaaGK2
namespace Go.Proofs.Ytdbflchpbhkanaa.AL
open Go
set_option linter.unusedVariables false
set_option linter.unusedSimpArgs false
def wordS (s : St3) : List Int := s.1 ++ s.2.1.reverse
def GdS (s : St3) : Prop := (s.1.length ≤ 6 ∧ s.2.1.length ≤ 6 ∧ 0 ≤ s.2.2 ∧ s.2.2 ≤ 6) ∧ NCw (wordS s) ∧ renU s.1 s.2.1 = s.1 ∧ renD s.1 s.2.1 = s.2.1
instance (s : St3) : Decidable (GdS s) := by unfold GdS; infer_instance
theorem GdS.range {s : St3} (h : GdS s) : (∀ z ∈ s.1, 0 ≤ z ∧ z ≤ 5) ∧ ∀ z ∈ s.2.1, 0 ≤ z ∧ z ≤ 5 := by
  have := ren_range h.1.1 h.1.2.1 h.2.1.1
  rw [h.2.2.1, h.2.2.2] at this
  exact ⟨fun z hz => this z (by simp [hz]), fun z hz => this z (by simp [hz])⟩
section
variable {fu : Nat} {x : Int} {xs ys : List Int}
theorem around_eq {u d : List Int} {c : Int} (hu : u.length ≤ 100) (hd : d.length ≤ 100) (hf : 1000 < fu) : F_spec_stAround fu u d c = some (u ++ d.reverse) := by
  unfold F_spec_stAround
  rw [own_eq (by omega), bd_of]
  have key : ∀ (k n : Nat), k ≤ d.length → k < n → ∀ l : List Int, l.length ≤ 200 - k → ∃ y, F_spec_stAround_L1 fu u d c n l ((k : Int) - 1) = some (l ++ (d.take k).reverse, y) := by
    intro k
    induction k with
    | zero =>
      intro n hk hn l hl
      cases n with
      | zero => omega
      | succ n =>
        simp only [F_spec_stAround_L1]
        rw [ile_f (by omega), cond_false]
        exact ⟨_, by simp; rfl⟩
    | succ k ih =>
      intro n hk hn l hl
      cases n with
      | zero => omega
      | succ n =>
        have hk' : k < d.length := by omega
        simp only [F_spec_stAround_L1]
        rw [show ((k + 1 : Nat) : Int) - 1 = (k : Int) by omega, ile_t (by omega), cond_true, gd_t (inL_nat hk'), gat_nat hk', gd_t (by simp; omega), isub_id (by omega) (by omega)]
        obtain ⟨y, h⟩ := ih n (by omega) (by omega) (lapp l [d[k]]) (by simp [lapp]; omega)
        refine ⟨y, ?_⟩
        rw [h, tk hk', List.reverse_append]
        simp [lapp]
  obtain ⟨y, h⟩ := key d.length fu (Nat.le_refl _) (by omega) u (by omega)
  unfold llen
  rw [isub_id (by omega) (by omega), h, bd_of]
  simp
theorem stackL_eq {w : List Int} (hw : w.length ≤ 1000) (hf : 1000 < fu) : bd (F_spec_stGood_L1 fu w (llen w) fu [] [] 0) (fun s1 => lr s1 fun s1 => some (ieq (llen s1.1) 0)) = some (stk [] [] w) := by
  obtain ⟨out, hq, e⟩ := loop_inv (fun n (s : List Int × List Int) k => F_spec_stGood_L1 fu w (llen w) n s.1 s.2 k) w.length (fun k s => stk s.1 s.2 (w.drop k) = stk [] [] w ∧ s.1.length ≤ k ∧ s.2.length ≤ k) (fun o => (o = .ret false ∧ stk [] [] w = false) ∨ ∃ p q y, o = .brk (p, q, y) ∧ stk [] [] w = (p == []))
    (fun n k s hk hp => by
      obtain ⟨op, dn⟩ := s
      obtain ⟨h1, h2, h3⟩ := hp
      simp only at h1 h2 h3
      simp only [F_spec_stGood_L1]
      rw [ilt_k hk, cond_true, gd_t (inL_nat hk), gat_nat hk, nx hk (by omega), has_eq (by omega) (by omega), bd_of]
      rw [List.drop_eq_getElem_cons hk] at h1
      simp only [stk] at h1
      by_cases hd : w[k] ∈ dn
      · rw [if_pos hd] at h1
        rw [decide_eq_true hd]
        exact .inl ⟨_, .inl ⟨rfl, h1.symm⟩, rfl⟩
      · rw [if_neg hd] at h1
        rw [decide_eq_false hd, cond_false, has_eq (by omega) (by omega), bd_of]
        by_cases ho : w[k] ∈ op
        · rw [if_neg (by simpa using ho)] at h1
          rw [decide_eq_true ho]
          have hpos : 0 < op.length := List.length_pos_of_mem ho
          have hi : inL op (isub .i64 (llen op) 1) := by
            unfold llen
            rw [isub_id (by omega) (by omega)]
            exact ⟨by omega, by omega⟩
          have hg : gat 0 op (isub .i64 (llen op) 1) = op[op.length - 1] := by
            unfold llen
            rw [isub_id (by omega) (by omega), show (op.length : Int) - 1 = ((op.length - 1 : Nat) : Int) by omega, gat_nat (by omega)]
          have hl : op.getLast? = some op[op.length - 1] := by rw [List.getLast?_eq_getElem?, List.getElem?_eq_getElem (by omega)]
          show (∃ out, _ ∧ gd _ _ = _) ∨ _
          rw [gd_t hi, hg]
          rw [hl] at h1
          by_cases e : op[op.length - 1] = w[k]
          · rw [e, if_neg (by simp)] at h1
            rw [ine_f e, cond_false]
            have hs : lsub op 0 (isub .i64 (llen op) 1) = op.dropLast := by
              unfold lsub llen
              rw [isub_id (by omega) (by omega), List.dropLast_eq_take]
              simp
            rw [gd_t (by unfold subL llen; rw [isub_id (by omega) (by omega)]; omega), gd_t (by simp; omega), hs]
            refine .inr ⟨(op.dropLast, lapp dn [w[k]]), ⟨h1, by simp; omega, by simp [lapp]; omega⟩, ?_⟩
            rfl
          · rw [if_pos (by simpa using e)] at h1
            rw [ine_t e]
            exact .inl ⟨_, .inl ⟨rfl, h1.symm⟩, rfl⟩
        · rw [if_pos ho] at h1
          rw [decide_eq_false ho]
          show (∃ out, _ ∧ gd _ _ = _) ∨ _
          rw [gd_t (by simp; omega)]
          refine .inr ⟨(lapp op [w[k]], dn), ⟨h1, by simp [lapp]; omega, by simp; omega⟩, rfl⟩)
    (fun n s hp => by
      obtain ⟨op, dn⟩ := s
      simp only [F_spec_stGood_L1]
      rw [ilt_e, cond_false]
      refine ⟨_, .inr ⟨op, dn, _, rfl, ?_⟩, rfl⟩
      have := hp.1
      rw [List.drop_length] at this
      exact this.symm) fu ([], []) (by omega) ⟨by simp, by simp, by simp⟩
  simp only at e
  rw [e, bd_of]
  rcases hq with ⟨rfl, h⟩ | ⟨p, q, y, rfl, h⟩
  · rw [h]; rfl
  · rw [h]
    cases p with
    | nil => rfl
    | cons a p =>
      show some (ieq (llen (a :: p)) 0) = _
      rw [ieq_f (by simp [llen]; omega)]
      rfl
theorem stGood_eq (hf : 1000 < fu) (u d : List Int) (c : Int) (hu : u.length ≤ 2000000) (hd : d.length ≤ 2000000) : F_spec_stGood fu u d c = some (decide (GdS (u, d, c))) := by
  unfold F_spec_stGood
  by_cases h1 : u.length ≤ 6
  · rw [ilt_f (by unfold llen; omega), cond_false]
    by_cases h2 : d.length ≤ 6
    · rw [ilt_f (by unfold llen; omega), cond_false, l1In_eq, bd_of, bd_of]
      by_cases h3 : 0 ≤ c ∧ c ≤ 6
      · have e3 : (decide (0 ≤ c) && decide (c ≤ 6)) = true := by simpa using h3
        rw [e3]
        show (bif false then _ else _) = _
        rw [cond_false, all_eq (by omega) (by omega), bd_of]
        by_cases h4 : ∀ z ∈ u, 0 ≤ z ∧ z ≤ 6
        · rw [decide_eq_true h4]
          show bd (bd (F_spec_l1All fu d 0 6) _) _ = _
          rw [all_eq (by omega) (by omega), bd_of, bd_of]
          by_cases h5 : ∀ z ∈ d, 0 ≤ z ∧ z ≤ 6
          · rw [decide_eq_true h5]
            show bd (F_spec_stRename fu u d) _ = _
            rw [rename_eq (by omega) (by omega) hf, bd_of]
            simp only
            rw [same_eq (by unfold renU; simp; omega) (by unfold renU; simp; omega), bd_of]
            by_cases h6 : renU u d = u
            · rw [decide_eq_true h6]
              show bd (bd (F_spec_l1Same fu (renD u d) d) _) _ = _
              rw [same_eq (by unfold renD; simp; omega) (by unfold renD; simp; omega), bd_of, bd_of]
              by_cases h7 : renD u d = d
              · rw [decide_eq_true h7]
                show bd (F_spec_stAround fu u d c) _ = _
                rw [around_eq (by omega) (by omega) hf, bd_of, stackL_eq (by simp; omega) hf, stk_nc]
                congr 1
                apply decide_eq_decide.2
                unfold GdS wordS
                simp only
                exact ⟨fun h => ⟨⟨h1, h2, h3⟩, h, h6, h7⟩, fun h => h.2.1⟩
              · have : ¬ GdS (u, d, c) := fun h => h7 h.2.2.2
                rw [decide_eq_false h7, decide_eq_false this]
                rfl
            · have : ¬ GdS (u, d, c) := fun h => h6 h.2.2.1
              rw [decide_eq_false h6, decide_eq_false this]
              rfl
          · have : ¬ GdS (u, d, c) := fun h => h5 fun z hz => by
              have := h.range.2 z hz
              omega
            rw [decide_eq_false h5, decide_eq_false this]
            rfl
        · have : ¬ GdS (u, d, c) := fun h => h4 fun z hz => by
            have := h.range.1 z hz
            omega
          rw [decide_eq_false h4, decide_eq_false this]
          rfl
      · have e3 : (decide (0 ≤ c) && decide (c ≤ 6)) = false := by rw [← Bool.not_eq_true]; simpa using h3
        have : ¬ GdS (u, d, c) := fun h => h3 h.1.2.2
        rw [e3, decide_eq_false this]
        rfl
    · have : ¬ GdS (u, d, c) := fun h => h2 h.1.2.1
      rw [ilt_t (by unfold llen; omega), decide_eq_false this]
      rfl
  · have : ¬ GdS (u, d, c) := fun h => h1 h.1.1
    rw [ilt_t (by unfold llen; omega), decide_eq_false this]
    rfl
end
end Go.Proofs.Ytdbflchpbhkanaa.AL
