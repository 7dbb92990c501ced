/- The program's word on states is the reference's. No condition. -/
import Derived.Test.YtdbflchpbhkanaaPD6
namespace Go.Proofs.Ytdbflchpbhkanaa.AL
open Go
set_option linter.unusedVariables false
set_option linter.unusedSimpArgs false
section
variable {fu : Nat} {x y : List Int}
theorem grow_eq {n : Int} (h0 : 0 ≤ n) (h1 : n ≤ 1000000) : F_slices_Grow_Sint fu n = some [] := by
  unfold F_slices_Grow_Sint
  rw [ilt_f (by omega), cond_false, bd_of, isub_id (a := 0) (by omega) (by omega), isub_id (by omega) (by omega)]
  by_cases h : 0 < n
  · rw [ilt_t (by omega), cond_true, gd_t (by omega), gd_t (subL_mk (by omega) (by omega) (by omega))]
    simp [lsub]
  · rw [ilt_f (by omega), cond_false]
theorem concat_eq (hf : 10 < fu) (hx : x.length ≤ 100000) (hy : y.length ≤ 100000) : F_slices_Concat_Sint fu [x, y] = some (x ++ y) := by
  obtain ⟨n, rfl⟩ : ∃ n, fu = n + 1 + 1 + 1 + 1 := ⟨fu - 4, by omega⟩
  have g0 : gat [] [x, y] 0 = x := by simp [gat_eq]
  have g1 : gat [] [x, y] 1 = y := by simp [gat_eq]
  have b1 : iadd .i64 0 1 = 1 := iadd_id (by omega) (by omega)
  have b2 : iadd .i64 1 1 = 2 := iadd_id (by omega) (by omega)
  have i0 : inL [x, y] 0 := ⟨by omega, by simp⟩
  have i1 : inL [x, y] 1 := ⟨by omega, by simp⟩
  have a1 : iadd .i64 0 (x.length : Int) = (x.length : Int) := by rw [iadd_id (by omega) (by omega)]; omega
  have a2 : iadd .i64 (x.length : Int) (y.length : Int) = (x.length : Int) + (y.length : Int) := iadd_id (by omega) (by omega)
  have l1 : F_slices_Concat_Sint_L1 (n + 1 + 1 + 1 + 1) [x, y] 2 (n + 1 + 1 + 1 + 1) 0 0 = some ((x.length : Int) + (y.length : Int), 2) := by
    simp only [F_slices_Concat_Sint_L1, llen]
    rw [ilt_t (by omega), cond_true, gd_t i0, g0, a1, ilt_f (by omega), cond_false, b1]
    rw [ilt_t (by omega), cond_true, gd_t i1, g1, a2, ilt_f (by omega), cond_false, b2]
    rw [ilt_f (by omega), cond_false]
  have l2 : F_slices_Concat_Sint_L2 (n + 1 + 1 + 1 + 1) [x, y] 2 (n + 1 + 1 + 1 + 1) [] 0 = some (x ++ y, 2) := by
    simp only [F_slices_Concat_Sint_L2]
    rw [ilt_t (by omega), cond_true, gd_t i0, g0, gd_t (by simp; omega), b1]
    rw [ilt_t (by omega), cond_true, gd_t i1, g1, gd_t (by simp [lapp]; omega), b2]
    rw [ilt_f (by omega), cond_false]
    simp [lapp]
  unfold F_slices_Concat_Sint
  rw [show llen [x, y] = 2 from rfl, l1, bd_of]
  simp only
  rw [grow_eq (by omega) (by omega), bd_of, l2, bd_of]
def Half (x l : List Int) (i : Nat) : Prop := l.length = x.length ∧ ∀ k, k < x.length → l[k]? = if k < i ∨ x.length ≤ k + i then x[x.length - 1 - k]? else x[k]?
theorem rev_L {x : List Int} (hx : x.length ≤ 100000) : ∀ (d i m : Nat) (l : List Int), i + d = x.length / 2 → d < m → Half x l i → ∃ y z, F_slices_Reverse_Sint_L1 fu m l (i : Int) ((x.length : Int) - 1 - (i : Int)) = some (x.reverse, y, z) := by
  intro d
  induction d with
  | zero =>
    intro i m l hi hm h
    cases m with
    | zero => omega
    | succ m =>
      simp only [F_slices_Reverse_Sint_L1]
      rw [ilt_f (by omega), cond_false]
      have : l = x.reverse := by
        apply List.ext_getElem?
        intro k
        by_cases hk : k < x.length
        · rw [h.2 k hk, List.getElem?_reverse hk]
          split
          · rfl
          · congr 1
            omega
        · rw [List.getElem?_eq_none (by rw [h.1]; omega), List.getElem?_eq_none (by simp; omega)]
      rw [this]
      exact ⟨_, _, rfl⟩
  | succ d ih =>
    intro i m l hi hm h
    cases m with
    | zero => omega
    | succ m =>
      obtain ⟨hl, hg⟩ := h
      have hj : (x.length : Int) - 1 - (i : Int) = ((x.length - 1 - i : Nat) : Int) := by omega
      have h1 : i < l.length := by omega
      have h2 : x.length - 1 - i < l.length := by omega
      have h3 : inL (lset l (i : Int) (gat 0 l ((x.length - 1 - i : Nat) : Int))) ((x.length - 1 - i : Nat) : Int) := by
        rw [lset_nat]
        exact inL_nat (by simpa using h2)
      simp only [F_slices_Reverse_Sint_L1]
      rw [hj, ilt_t (by omega), cond_true, gd_t (inL_nat h2), gd_t (inL_nat h1), gd_t (inL_nat h1), gd_t h3, lset_nat, lset_nat, gat_nat h1, gat_nat h2, iadd_id (by omega) (by omega), isub_id (by omega) (by omega), show ((i : Int) + 1) = ((i + 1 : Nat) : Int) by omega,
        show (((x.length - 1 - i : Nat) : Int) - 1) = (x.length : Int) - 1 - ((i + 1 : Nat) : Int) by omega]
      refine ih (i + 1) m _ (by omega) (by omega) ⟨by simp [hl], fun k hk => ?_⟩
      have g1 := hg i (by omega)
      have g2 := hg (x.length - 1 - i) (by omega)
      rw [if_neg (by omega), List.getElem?_eq_getElem h1] at g1
      rw [if_neg (by omega), List.getElem?_eq_getElem h2] at g2
      rw [List.getElem?_set]
      by_cases e1 : x.length - 1 - i = k
      · rw [if_pos e1, if_pos (by simp; omega), g1, if_pos (by omega)]
        congr 1
        omega
      · rw [if_neg e1, List.getElem?_set]
        by_cases e2 : i = k
        · rw [if_pos e2, if_pos h1, g2, if_pos (by omega)]
          congr 1
          omega
        · rw [if_neg e2, hg k hk]
          by_cases c : k < i ∨ x.length ≤ k + i
          · rw [if_pos c, if_pos (by omega)]
          · rw [if_neg c, if_neg (by omega)]
theorem rev_eq {x : List Int} (hx : x.length ≤ 100000) (hf : 200000 < fu) : F_slices_Reverse_Sint fu x = some x.reverse := by
  unfold F_slices_Reverse_Sint
  obtain ⟨y, z, h⟩ := rev_L (fu := fu) hx (x.length / 2) 0 fu x (by omega) (by omega) ⟨rfl, fun k hk => by
    rw [if_neg (by omega)]⟩
  rw [Int.natCast_zero] at h
  simp only [llen]
  rw [isub_id (by omega) (by omega), show ((x.length : Int) - 1) = (x.length : Int) - 1 - 0 by omega, h, bd_of]
end
section
variable {fu : Nat} {x : Int} {xs ys : List Int}
theorem mgI_mem {z v : Int} : ∀ {m : List (Int × Int)}, mgetI z m = some v → (z, v) ∈ m
  | e :: r, h => by
    unfold mgetI at h
    split at h
    · rename_i hz
      cases h
      rw [hz]
      exact .head _
    · exact .tail _ (mgI_mem h)
theorem mem_mget {e : Int × Int} : ∀ {m : List (Int × Int)}, (m.map (·.1)).Nodup → e ∈ m → mgetI e.1 m = some e.2
  | a :: r, hn, h => by
    rw [List.map_cons, List.nodup_cons] at hn
    unfold mgetI
    rcases List.mem_cons.1 h with rfl | h
    · rw [if_pos rfl]
    · rw [if_neg (fun e' => hn.1 (List.mem_map.2 ⟨e, h, e'⟩)), mem_mget hn.2 h]
theorem mput_keys {k v : Int} : ∀ {m : List (Int × Int)}, (m.map (·.1)).Nodup → ((mputI k v m).map (·.1)).Nodup ∧ ∀ q, q ∈ (mputI k v m).map (·.1) → q = k ∨ q ∈ m.map (·.1)
  | [], _ => by simp [mputI]
  | e :: r, h => by
    simp only [List.map_cons, List.nodup_cons] at h
    unfold mputI
    split
    · rename_i hk
      exact ⟨by simpa using h, fun q hq => .inr (by simpa using hq)⟩
    · rename_i hk
      obtain ⟨h1, h2⟩ := mput_keys (k := k) (v := v) h.2
      refine ⟨?_, fun q hq => ?_⟩
      · simp only [List.map_cons, List.nodup_cons]
        refine ⟨fun hm => ?_, h1⟩
        rcases h2 _ hm with e | hm
        · exact hk e.symm
        · exact h.1 hm
      · simp only [List.map_cons, List.mem_cons] at hq ⊢
        rcases hq with hq | hq
        · exact .inr (.inl hq)
        · rcases h2 q hq with hq | hq
          · exact .inl hq
          · exact .inr (.inr hq)
theorem cnt_eq (hx : xs.length ≤ 1000) (hf : 1000 < fu) : ∃ m, cnt_L fu xs 0 [] = some m ∧ (m.all fun e => ieq e.2 2) = decide (Two xs) := by
  obtain ⟨m, hq, e⟩ := loop_inv (fun n (m : List (Int × Int)) k => cnt_L n xs k m) xs.length (fun k m => (m.map (·.1)).Nodup ∧ ∀ z, mgetI z m = if z ∈ xs.take k then some (((xs.take k).count z : Nat) : Int) else none) (fun m => (m.map (·.1)).Nodup ∧ ∀ z, mgetI z m = if z ∈ xs then some ((xs.count z : Nat) : Int) else none)
    (fun n k m hk hp => by
      simp only [cnt_L]
      rw [ilt_k hk, cond_true, gd_t (inL_nat hk), gat_nat hk, nx hk (by omega)]
      refine .inr ⟨_, ⟨(mput_keys hp.1).1, fun z => ?_⟩, rfl⟩
      have hc : (xs.take k).count xs[k] ≤ k := Nat.le_trans List.count_le_length (by simp; omega)
      have h1 : iadd .i64 ((mgetI xs[k] m).getD 0) 1 = (((xs.take k).count xs[k] + 1 : Nat) : Int) := by
        rw [hp.2]
        by_cases hm : xs[k] ∈ xs.take k
        · rw [if_pos hm, Option.getD_some, iadd_id (by omega) (by omega)]
          omega
        · rw [if_neg hm, List.count_eq_zero.2 hm, Option.getD_none]
          rfl
      rw [mget_put, h1, tk hk, hp.2 z]
      by_cases hz : z = xs[k]
      · rw [if_pos hz, if_pos (by rw [hz]; exact List.mem_append.2 (.inr (.head _))), hz, List.count_append]
        simp
      · rw [if_neg hz]
        by_cases hm : z ∈ xs.take k
        · rw [if_pos hm, if_pos (by simp only [List.mem_append]; exact .inl hm), List.count_append]
          have : ¬ xs[k] = z := fun e => hz e.symm
          simp [List.count_cons, this]
        · rw [if_neg hm, if_neg (by simp only [List.mem_append, List.mem_singleton]; exact fun h => h.elim hm hz)])
    (fun n m hp => by
      simp only [cnt_L]
      rw [ilt_e, cond_false]
      exact ⟨_, by simpa using hp, rfl⟩) fu [] (by omega) (by simp [mgetI])
  refine ⟨m, e, ?_⟩
  by_cases ht : Two xs
  · rw [decide_eq_true ht, List.all_eq_true]
    intro e he
    have h1 := mem_mget hq.1 he
    rw [hq.2] at h1
    split at h1
    · rename_i hm
      rw [ht e.1 hm] at h1
      exact ieq_t (by simpa using (Option.some.inj h1).symm)
    · cases h1
  · rw [decide_eq_false ht, ← Bool.not_eq_true, List.all_eq_true]
    intro ha
    refine ht fun z hz => ?_
    have h1 := hq.2 z
    rw [if_pos hz] at h1
    have h2 := ha _ (mgI_mem h1)
    simp only [ieq_eq, beq_iff_eq] at h2
    omega
theorem lsub_all (k : Nat) (hk : k ≤ xs.length) : lsub xs (k : Int) (llen xs) = xs.drop k := by
  unfold lsub llen
  rw [List.take_of_length_le (by simp)]
  rfl
theorem lsub_pre (k : Nat) : lsub xs 0 (k : Int) = xs.take k := by
  unfold lsub
  simp
theorem crosses_eq {w : List Int} (hw : w.length ≤ 1000) (hf : 1000 < fu) : F_impl_crosses fu w = some (crX [] w) := by
  unfold F_impl_crosses
  obtain ⟨out, hq, e⟩ := loop_inv (fun n (_ : Unit) k => F_impl_crosses_L1 fu w (llen w) n k) w.length (fun k _ => crX [] w = crX (w.take k) (w.drop k)) (fun o => (o = .ret true ∧ crX [] w = true) ∨ ((∃ y, o = .brk y) ∧ crX [] w = false))
    (fun n k _ hk hp => by
      rw [List.drop_eq_getElem_cons hk, crX, ← tk hk] at hp
      simp only [F_impl_crosses_L1]
      rw [ilt_k hk, cond_true, gd_t (inL_nat hk), gat_nat hk, nx hk (by omega), gd_t (subL_mk (by omega) (by unfold llen; omega) (by unfold llen; omega)), lsub_all (k + 1) (by omega), index_eq (by simp; omega) (by simp; omega), bd_of]
      unfold crA at hp
      generalize hr : w.drop (k + 1) = r at *
      by_cases hx : w[k] ∈ r
      · rw [if_pos hx] at hp ⊢
        obtain ⟨m, t, e1, hm⟩ := first_split hx
        have hrl : r.length = w.length - (k + 1) := by rw [← hr]; simp
        have htw : r.takeWhile (fun z => z != w[k]) = m := by rw [e1]; exact tw_eq hm
        have hlm : m.length < r.length := by rw [e1]; simp
        rw [htw] at hp ⊢
        have ej : iadd .i64 ((k + 1 : Nat) : Int) (m.length : Int) = ((k + 1 + m.length : Nat) : Int) := by rw [iadd_id (by omega) (by omega)]; omega
        have em : lsub w ((k + 1 : Nat) : Int) ((k + 1 + m.length : Nat) : Int) = m := by
          unfold lsub
          rw [Int.toNat_natCast, Int.toNat_natCast, hr, e1]
          rw [show k + 1 + m.length - (k + 1) = m.length by omega]
          simp
        have ed : w.drop (k + 1 + m.length + 1) = r.drop (m.length + 1) := by rw [← hr, List.drop_drop]; congr 1
        rw [ej, ile_f (by omega), cond_false, gd_t (subL_mk (by omega) (by omega) (by omega)), em]
        obtain ⟨o2, hq2, e2⟩ := loop_inv (fun n (_ : Unit) k' => F_impl_crosses_L2 fu w (k : Int) ((k + 1 + m.length : Nat) : Int) (llen w) m (llen m) n k') m.length (fun i _ => (m.take i).any (fun p => decide (p ∈ w.take k) || decide (p ∈ r.drop (m.length + 1))) = false) (fun o => (o = .ret (.ret true) ∧ m.any (fun p => decide (p ∈ w.take k) || decide (p ∈ r.drop (m.length + 1))) = true) ∨ ((∃ y, o = .brk y) ∧ m.any (fun p => decide (p ∈ w.take k) || decide (p ∈ r.drop (m.length + 1))) = false))
          (fun n i _ hi hp2 => by
            simp only [F_impl_crosses_L2]
            rw [ilt_k hi, cond_true, gd_t (inL_nat hi), gat_nat hi, nx hi (by omega), gd_t (subL_mk (by omega) (by omega) (by omega)), lsub_pre, contains_eq (by simp; omega) (by simp; omega), bd_of]
            have hany : (decide (m[i] ∈ w.take k) || decide (m[i] ∈ r.drop (m.length + 1))) = true → m.any (fun p => decide (p ∈ w.take k) || decide (p ∈ r.drop (m.length + 1))) = true := fun h => List.any_eq_true.2 ⟨m[i], List.getElem_mem hi, h⟩
            by_cases c1 : m[i] ∈ w.take k
            · rw [decide_eq_true c1]
              exact .inl ⟨_, .inl ⟨rfl, hany (by simp [c1])⟩, rfl⟩
            · rw [decide_eq_false c1, cond_false, nx (k := k + 1 + m.length) (m := w.length) (by omega) (by omega), gd_t (subL_mk (by omega) (by unfold llen; omega) (by unfold llen; omega)), lsub_all (k + 1 + m.length + 1) (by omega), ed, contains_eq (by simp; omega) (by simp; omega), bd_of, bd_of]
              by_cases c2 : m[i] ∈ r.drop (m.length + 1)
              · rw [decide_eq_true c2]
                exact .inl ⟨_, .inl ⟨rfl, hany (by simp [c2])⟩, rfl⟩
              · rw [decide_eq_false c2]
                refine .inr ⟨(), ?_, rfl⟩
                rw [tk hi, List.any_append, hp2, List.any_cons, List.any_nil, decide_eq_false c1, decide_eq_false c2]
                rfl)
          (fun n _ hp2 => by
            simp only [F_impl_crosses_L2]
            rw [ilt_e, cond_false]
            exact ⟨_, .inr ⟨⟨_, rfl⟩, by simpa using hp2⟩, rfl⟩) fu () (by omega) (by simp)
        rw [e2, bd_of]
        rcases hq2 with ⟨rfl, h⟩ | ⟨⟨y, rfl⟩, h⟩
        · rw [h] at hp
          exact .inl ⟨_, .inl ⟨rfl, by rw [hp]; rfl⟩, rfl⟩
        · rw [h] at hp
          exact .inr ⟨(), by rw [hp]; rfl, rfl⟩
      · rw [if_neg hx] at hp ⊢
        rw [show iadd .i64 ((k + 1 : Nat) : Int) (-1) = (k : Int) by rw [iadd_id (by omega) (by omega)]; omega, ile_t (by omega), cond_true]
        exact .inr ⟨(), by rw [hp]; rfl, rfl⟩)
    (fun n _ hp => by
      simp only [F_impl_crosses_L1]
      rw [ilt_e, cond_false]
      exact ⟨_, .inr ⟨⟨_, rfl⟩, by rw [hp, List.drop_length]; rfl⟩, rfl⟩) fu () (by omega) (by simp)
  rw [e, bd_of]
  rcases hq with ⟨rfl, h⟩ | ⟨⟨y, rfl⟩, h⟩ <;> simp [lr, h]
theorem isState_eq (hf : 200000 < fu) (u d : List Int) (c : Int) : F_impl_IsState fu u d c = some (decide (GdS (u, d, c))) := by
  unfold F_impl_IsState
  by_cases h1 : u.length ≤ 6
  · rw [ilt_f (by unfold llen; omega), cond_false]
    by_cases h2 : d.length ≤ 6
    · rw [ilt_f (by unfold llen; omega), cond_false, arch_eq, bd_of, bd_of]
      by_cases h3 : 0 ≤ c ∧ c ≤ 6
      · have e3 : (decide (0 ≤ c) && decide (c ≤ 6)) = true := by simpa using h3
        rw [e3]
        show bd (F_slices_Clone_Sint fu d) _ = _
        rw [clone_eq (by omega), bd_of, rev_eq (by omega) hf, bd_of, concat_eq (by omega) (by omega) (by simp; omega), bd_of]
        obtain ⟨m, hm, ha⟩ := cnt_eq (fu := fu) (xs := u ++ d.reverse) (by simp; omega) (by omega)
        rw [hm, bd_of, ha]
        by_cases h4 : Two (u ++ d.reverse)
        · rw [decide_eq_true h4, cond_true, renumbered_eq (by omega) (by omega) (by omega), bd_of]
          unfold F_impl_State_same
          simp only
          rw [equal_eq (by unfold renU; simp; omega) (by unfold renU; simp; omega), bd_of]
          by_cases h6 : renU u d = u
          · rw [decide_eq_true h6, cond_true, equal_eq (by unfold renD; simp; omega) (by unfold renD; simp; omega), bd_of]
            by_cases h7 : renD u d = d
            · rw [decide_eq_true h7, cond_true, bd_of, ieq_t rfl, cond_true, crosses_eq (by simp; omega) (by omega), bd_of, crX_nc h4]
              have : (bnot (!decide (NCw (u ++ d.reverse)))) = decide (NCw (u ++ d.reverse)) := by cases decide (NCw (u ++ d.reverse)) <;> rfl
              rw [this]
              congr 1
              apply decide_eq_decide.2
              unfold GdS wordS
              simp only
              exact ⟨fun h => ⟨⟨h1, h2, h3⟩, h, h6, h7⟩, fun h => h.2.1⟩
            · have : ¬ GdS (u, d, c) := fun h => h7 h.2.2.2
              rw [decide_eq_false h7, decide_eq_false this]
              rfl
          · have : ¬ GdS (u, d, c) := fun h => h6 h.2.2.1
            rw [decide_eq_false h6, decide_eq_false this]
            rfl
        · have : ¬ GdS (u, d, c) := fun h => h4 h.2.1.1
          rw [decide_eq_false h4, decide_eq_false this]
          rfl
      · have e3 : (decide (0 ≤ c) && decide (c ≤ 6)) = false := by rw [← Bool.not_eq_true]; simpa using h3
        have : ¬ GdS (u, d, c) := fun h => h3 h.1.2.2
        rw [e3, decide_eq_false this]
        rfl
    · have : ¬ GdS (u, d, c) := fun h => h2 h.1.2.1
      rw [ilt_t (by unfold llen; omega), decide_eq_false this]
      rfl
  · have : ¬ GdS (u, d, c) := fun h => h1 h.1.1
    rw [ilt_t (by unfold llen; omega), decide_eq_false this]
    rfl
end
end Go.Proofs.Ytdbflchpbhkanaa.AL
