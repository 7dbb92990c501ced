/- A step: the program's and the reference's. No condition. -/
import Derived.Test.YtdbflchpbhkanaaPD7
import Derived.Test.YtdbflchpbhkanaaG5
namespace Go.Proofs.Ytdbflchpbhkanaa.AL
open Go
set_option linter.unusedVariables false
set_option linter.unusedSimpArgs false
section
variable {fu : Nat}
theorem jn1 {a : List Int} {b x y : Int} {xs : List Int} (hx : xs.length ≤ 1000) (hf : 1000 < fu) : ∃ z, F_spec_stStep_L1 fu a b x y (llen xs) fu xs 0 = some (xs.map (jn x y), z) := by
  obtain ⟨⟨o1, o2⟩, hq, e⟩ := loop_inv (fun n (l : List Int) k => F_spec_stStep_L1 fu a b x y (llen xs) n l k) xs.length (fun k l => l = (xs.take k).map (jn x y) ++ xs.drop k) (fun o => o.1 = xs.map (jn x y))
    (fun n k l hk hp => by
      have hl : l.length = xs.length := by rw [hp]; simp; omega
      have hkl : k < l.length := by omega
      have hg : l[k] = xs[k] := by
        have h1 : l[k]? = some xs[k] := by
          rw [hp, List.getElem?_append_right (by simp; omega)]
          simp
          rw [Nat.min_eq_left (by omega), show k + (k - k) = k by omega, List.getElem?_eq_getElem hk]
        rw [List.getElem?_eq_getElem hkl] at h1
        exact Option.some.inj h1
      have hd : xs.drop k = xs[k] :: xs.drop (k + 1) := List.drop_eq_getElem_cons hk
      have ht : (xs.take (k + 1)).map (jn x y) = (xs.take k).map (jn x y) ++ [jn x y xs[k]] := by rw [tk hk, List.map_append]; rfl
      simp only [F_spec_stStep_L1]
      rw [ilt_k hk, cond_true, gd_t (inL_nat hkl), gat_nat hkl, nx hk (by omega), hg]
      by_cases e : xs[k] = y
      · rw [ieq_t e, cond_true, gd_t (inL_nat hkl), lset_nat]
        refine .inr ⟨_, ?_, rfl⟩
        rw [ht, hp, hd, List.set_append, if_neg (by simp; omega), List.length_map, List.length_take, Nat.min_eq_left (by omega), Nat.sub_self]
        simp [jn, e]
      · rw [ieq_f e, cond_false]
        refine .inr ⟨_, ?_, rfl⟩
        rw [ht, hp, hd]
        simp [jn, e])
    (fun n l hp => by
      simp only [F_spec_stStep_L1]
      rw [ilt_e, cond_false]
      exact ⟨_, by simpa using hp, rfl⟩) fu xs (by omega) (by simp)
  exact ⟨o2, by rw [e]; simp only at hq; rw [hq]⟩
theorem jn2 {a : List Int} {b x y : Int} {xs : List Int} (hx : xs.length ≤ 1000) (hf : 1000 < fu) : ∃ z, F_spec_stStep_L2 fu a b x y (llen xs) fu xs 0 = some (xs.map (jn x y), z) := by
  obtain ⟨⟨o1, o2⟩, hq, e⟩ := loop_inv (fun n (l : List Int) k => F_spec_stStep_L2 fu a b x y (llen xs) n l k) xs.length (fun k l => l = (xs.take k).map (jn x y) ++ xs.drop k) (fun o => o.1 = xs.map (jn x y))
    (fun n k l hk hp => by
      have hl : l.length = xs.length := by rw [hp]; simp; omega
      have hkl : k < l.length := by omega
      have hg : l[k] = xs[k] := by
        have h1 : l[k]? = some xs[k] := by
          rw [hp, List.getElem?_append_right (by simp; omega)]
          simp
          rw [Nat.min_eq_left (by omega), show k + (k - k) = k by omega, List.getElem?_eq_getElem hk]
        rw [List.getElem?_eq_getElem hkl] at h1
        exact Option.some.inj h1
      have hd : xs.drop k = xs[k] :: xs.drop (k + 1) := List.drop_eq_getElem_cons hk
      have ht : (xs.take (k + 1)).map (jn x y) = (xs.take k).map (jn x y) ++ [jn x y xs[k]] := by rw [tk hk, List.map_append]; rfl
      simp only [F_spec_stStep_L2]
      rw [ilt_k hk, cond_true, gd_t (inL_nat hkl), gat_nat hkl, nx hk (by omega), hg]
      by_cases e : xs[k] = y
      · rw [ieq_t e, cond_true, gd_t (inL_nat hkl), lset_nat]
        refine .inr ⟨_, ?_, rfl⟩
        rw [ht, hp, hd, List.set_append, if_neg (by simp; omega), List.length_map, List.length_take, Nat.min_eq_left (by omega), Nat.sub_self]
        simp [jn, e]
      · rw [ieq_f e, cond_false]
        refine .inr ⟨_, ?_, rfl⟩
        rw [ht, hp, hd]
        simp [jn, e])
    (fun n l hp => by
      simp only [F_spec_stStep_L2]
      rw [ilt_e, cond_false]
      exact ⟨_, by simpa using hp, rfl⟩) fu xs (by omega) (by simp)
  exact ⟨o2, by rw [e]; simp only at hq; rw [hq]⟩
theorem jn3 {a : List Int} {b x y : Int} {xs : List Int} (hx : xs.length ≤ 1000) (hf : 1000 < fu) : ∃ z, F_impl_State_stepped_L1 fu a b x y (llen xs) fu xs 0 = some (xs.map (jn x y), z) := by
  obtain ⟨⟨o1, o2⟩, hq, e⟩ := loop_inv (fun n (l : List Int) k => F_impl_State_stepped_L1 fu a b x y (llen xs) n l k) xs.length (fun k l => l = (xs.take k).map (jn x y) ++ xs.drop k) (fun o => o.1 = xs.map (jn x y))
    (fun n k l hk hp => by
      have hl : l.length = xs.length := by rw [hp]; simp; omega
      have hkl : k < l.length := by omega
      have hg : l[k] = xs[k] := by
        have h1 : l[k]? = some xs[k] := by
          rw [hp, List.getElem?_append_right (by simp; omega)]
          simp
          rw [Nat.min_eq_left (by omega), show k + (k - k) = k by omega, List.getElem?_eq_getElem hk]
        rw [List.getElem?_eq_getElem hkl] at h1
        exact Option.some.inj h1
      have hd : xs.drop k = xs[k] :: xs.drop (k + 1) := List.drop_eq_getElem_cons hk
      have ht : (xs.take (k + 1)).map (jn x y) = (xs.take k).map (jn x y) ++ [jn x y xs[k]] := by rw [tk hk, List.map_append]; rfl
      simp only [F_impl_State_stepped_L1]
      rw [ilt_k hk, cond_true, gd_t (inL_nat hkl), gat_nat hkl, nx hk (by omega), hg]
      by_cases e : xs[k] = y
      · rw [ieq_t e, cond_true, gd_t (inL_nat hkl), lset_nat]
        refine .inr ⟨_, ?_, rfl⟩
        rw [ht, hp, hd, List.set_append, if_neg (by simp; omega), List.length_map, List.length_take, Nat.min_eq_left (by omega), Nat.sub_self]
        simp [jn, e]
      · rw [ieq_f e, cond_false]
        refine .inr ⟨_, ?_, rfl⟩
        rw [ht, hp, hd]
        simp [jn, e])
    (fun n l hp => by
      simp only [F_impl_State_stepped_L1]
      rw [ilt_e, cond_false]
      exact ⟨_, by simpa using hp, rfl⟩) fu xs (by omega) (by simp)
  exact ⟨o2, by rw [e]; simp only at hq; rw [hq]⟩
theorem jn4 {a : List Int} {b x y : Int} {xs : List Int} (hx : xs.length ≤ 1000) (hf : 1000 < fu) : ∃ z, F_impl_State_stepped_L2 fu a b x y (llen xs) fu xs 0 = some (xs.map (jn x y), z) := by
  obtain ⟨⟨o1, o2⟩, hq, e⟩ := loop_inv (fun n (l : List Int) k => F_impl_State_stepped_L2 fu a b x y (llen xs) n l k) xs.length (fun k l => l = (xs.take k).map (jn x y) ++ xs.drop k) (fun o => o.1 = xs.map (jn x y))
    (fun n k l hk hp => by
      have hl : l.length = xs.length := by rw [hp]; simp; omega
      have hkl : k < l.length := by omega
      have hg : l[k] = xs[k] := by
        have h1 : l[k]? = some xs[k] := by
          rw [hp, List.getElem?_append_right (by simp; omega)]
          simp
          rw [Nat.min_eq_left (by omega), show k + (k - k) = k by omega, List.getElem?_eq_getElem hk]
        rw [List.getElem?_eq_getElem hkl] at h1
        exact Option.some.inj h1
      have hd : xs.drop k = xs[k] :: xs.drop (k + 1) := List.drop_eq_getElem_cons hk
      have ht : (xs.take (k + 1)).map (jn x y) = (xs.take k).map (jn x y) ++ [jn x y xs[k]] := by rw [tk hk, List.map_append]; rfl
      simp only [F_impl_State_stepped_L2]
      rw [ilt_k hk, cond_true, gd_t (inL_nat hkl), gat_nat hkl, nx hk (by omega), hg]
      by_cases e : xs[k] = y
      · rw [ieq_t e, cond_true, gd_t (inL_nat hkl), lset_nat]
        refine .inr ⟨_, ?_, rfl⟩
        rw [ht, hp, hd, List.set_append, if_neg (by simp; omega), List.length_map, List.length_take, Nat.min_eq_left (by omega), Nat.sub_self]
        simp [jn, e]
      · rw [ieq_f e, cond_false]
        refine .inr ⟨_, ?_, rfl⟩
        rw [ht, hp, hd]
        simp [jn, e])
    (fun n l hp => by
      simp only [F_impl_State_stepped_L2]
      rw [ilt_e, cond_false]
      exact ⟨_, by simpa using hp, rfl⟩) fu xs (by omega) (by simp)
  exact ⟨o2, by rw [e]; simp only at hq; rw [hq]⟩

theorem fin_good {u d : List Int} {c : Int} (h : NCw (u ++ d.reverse)) (hc : 0 ≤ c) : GdS (renU u d, renD u d, c) ↔ u.length ≤ 6 ∧ d.length ≤ 6 ∧ c ≤ 6 := by
  have e1 : (renU u d).length = u.length := by simp [renU]
  have e2 : (renD u d).length = d.length := by simp [renD]
  constructor
  · intro g
    have := g.1
    simp only [e1, e2] at this
    exact ⟨this.1, this.2.1, this.2.2.2⟩
  · intro g
    refine ⟨by simp only [e1, e2]; exact ⟨g.1, g.2.1, hc, g.2.2⟩, ?_, ren_ren u d⟩
    have : wordS (renU u d, renD u d, c) = (u ++ d.reverse).map (posS (seenS (u ++ d))) := by
      simp [wordS, renU, renD]
    rw [this]
    refine h.map fun x hx y hy => ?_
    exact pos_injOn x (by simpa using hx) y (by simpa using hy)
theorem fin_eq {u d : List Int} {c : Int} (hf : 1000 < fu) (hu : u.length ≤ 7) (hd : d.length ≤ 7) (h : NCw (u ++ d.reverse)) (hc : 0 ≤ c) :
    ∃ ok, (bd (F_spec_stRename fu u d) fun r3 => bd (F_spec_stGood fu r3.1 r3.2 c) fun r4 => some ((r3.1, r3.2, c), r4)) = some ((renU u d, renD u d, c), ok) ∧ (ok = true ↔ u.length ≤ 6 ∧ d.length ≤ 6 ∧ c ≤ 6) ∧ (ok = true → GdS (renU u d, renD u d, c)) := by
  rw [rename_eq (by omega) (by omega) hf, bd_of]
  simp only
  rw [stGood_eq hf _ _ _ (by simp [renU]; omega) (by simp [renD]; omega), bd_of]
  exact ⟨_, rfl, by rw [decide_eq_true_iff]; exact fin_good h hc, fun e => of_decide_eq_true e⟩
theorem fin_impl {u d : List Int} {c : Int} (hf : 1000 < fu) (hu : u.length ≤ 7) (hd : d.length ≤ 7) (hc : 0 ≤ c) :
    (bd (bif (ilt 6 (llen u)) then some true else bif (ilt 6 (llen d)) then some true else some (ilt 6 c)) fun s294 =>
    bif s294 then some (([], [], 0), false) else bd (F_impl_renumbered fu u d c) fun r5 => some ((r5.1, r5.2.1, r5.2.2), true)) = some (if u.length ≤ 6 ∧ d.length ≤ 6 ∧ c ≤ 6 then ((renU u d, renD u d, c), true) else (([], [], 0), false)) := by
  by_cases h1 : u.length ≤ 6
  · rw [ilt_f (by unfold llen; omega), cond_false]
    by_cases h2 : d.length ≤ 6
    · rw [ilt_f (by unfold llen; omega), cond_false, bd_of]
      by_cases h3 : c ≤ 6
      · rw [ilt_f (by omega), cond_false, renumbered_eq (by omega) (by omega) hf, bd_of, if_pos ⟨h1, h2, h3⟩]
      · rw [ilt_t (by omega), cond_true, if_neg (fun h => h3 h.2.2)]
    · rw [ilt_t (by unfold llen; omega), cond_true, bd_of, cond_true, if_neg (fun h => h2 h.2.1)]
  · rw [ilt_t (by unfold llen; omega), cond_true, bd_of, cond_true, if_neg (fun h => h1 h.1)]
def Nxt (s o : St3) : Prop := GdS o ∧ (o.2.2 = s.2.2 ∨ o.2.2 = s.2.2 + 1) ∧ (o.1 = [] → o.2.1 = [] → o.2.2 = s.2.2 + 1) ∧ 4 * o.2.2 + o.1.length + o.2.1.length ≤ 4 * s.2.2 + s.1.length + s.2.1.length + 2
def StepOk (fu : Nat) (u d : List Int) (c k : Int) : Prop := ∃ o o' ok, F_spec_stStep fu u d c k = some (o, ok) ∧ F_impl_State_stepped fu u d c k = some (o', ok) ∧ (ok = true → o' = o ∧ Nxt (u, d, c) o)
theorem stepOk_mk {u d : List Int} {c k : Int} {o : St3} {ok : Bool} {P : Prop} [Decidable P] (hs : F_spec_stStep fu u d c k = some (o, ok)) (hi : F_impl_State_stepped fu u d c k = some (if P then (o, true) else (([], [], 0), false))) (hok : ok = true ↔ P) (hn : ok = true → Nxt (u, d, c) o) : StepOk fu u d c k := by
  cases ok with
  | true => exact ⟨o, o, true, hs, by rw [hi, if_pos (hok.1 rfl)], fun h => ⟨rfl, hn h⟩⟩
  | false => exact ⟨o, _, false, hs, by rw [hi, if_neg (fun h => by cases hok.2 h)], fun h => by cases h⟩
theorem last_split {xs : List Int} (h : xs ≠ []) : ∃ q x, xs = q ++ [x] := by
  rcases List.eq_nil_or_concat xs with rfl | ⟨q, z, rfl⟩
  · exact absurd rfl h
  · exact ⟨q, z, by simp⟩
theorem gatLast {q : List Int} {x : Int} (h : q.length ≤ 1000) : gat 0 (q ++ [x]) (isub .i64 (llen (q ++ [x])) 1) = x := by
  unfold llen
  rw [List.length_append, List.length_singleton, isub_id (by omega) (by omega), show ((q.length + 1 : Nat) : Int) - 1 = (q.length : Int) by omega, gat_nat (by simp)]
  simp
theorem inLLast {q : List Int} {x : Int} (h : q.length ≤ 1000) : inL (q ++ [x]) (isub .i64 (llen (q ++ [x])) 1) := by
  unfold llen
  rw [List.length_append, List.length_singleton, isub_id (by omega) (by omega)]
  exact ⟨by omega, by simp; omega⟩
theorem subL_last {q : List Int} {x : Int} (h : q.length ≤ 1000) : subL (q ++ [x]) 0 (isub .i64 (llen (q ++ [x])) 1) := by
  unfold llen
  rw [List.length_append, List.length_singleton, isub_id (by omega) (by omega)]
  exact subL_mk (by omega) (by omega) (by simp; omega)
theorem lsub_last {q : List Int} {x : Int} (h : q.length ≤ 1000) : lsub (q ++ [x]) 0 (isub .i64 (llen (q ++ [x])) 1) = q := by
  unfold lsub llen
  rw [List.length_append, List.length_singleton, isub_id (by omega) (by omega)]
  simp
theorem neg_last {q : List Int} {x : Int} (h : q.length ≤ 1000) : ilt (isub .i64 (llen (q ++ [x])) 1) 0 = false := by
  unfold llen
  rw [List.length_append, List.length_singleton, isub_id (by omega) (by omega)]
  exact ilt_f (by omega)
theorem zero_last {q : List Int} {x : Int} : ieq (llen (q ++ [x])) 0 = false := ieq_f (by simp [llen]; omega)
theorem last_eq {q : List Int} {x : Int} (h : q.length ≤ 1000) : F_impl_last fu (q ++ [x]) = some (q, x) := by
  unfold F_impl_last
  rw [gd_t (subL_last h), lsub_last h, clone_eq (by omega), bd_of, gd_t (inLLast h), gatLast h]
variable {u d : List Int} {c : Int}
theorem step0 (h : GdS (u, d, c)) (hf : 1000 < fu) : StepOk fu u d c 0 := by
  obtain ⟨⟨h1, h2, h3, h4⟩, hn, hr⟩ := h
  have hg : GdS (u, d, c) := ⟨⟨h1, h2, h3, h4⟩, hn, hr⟩
  simp only at h1 h2 h3 h4
  have hw : NCw ((u ++ [(-1)]) ++ (d ++ [(-1)]).reverse) := by
    have e : (u ++ [(-1)]) ++ (d ++ [(-1)]).reverse = u ++ (-1) :: (-1) :: d.reverse := by simp
    rw [e]
    refine hn.ins fun hm => ?_
    simp only [wordS, List.mem_append, List.mem_reverse] at hm
    rcases hm with hm | hm
    · have := hg.range.1 _ hm; omega
    · have := hg.range.2 _ hm; omega
  obtain ⟨ok, e1, e2, e3⟩ := fin_eq (fu := fu) hf (by simp; omega) (by simp; omega) hw h3
  have hm := ren_map (f := fun z => if z = -1 then 100 else z) (u := u ++ [(-1)]) (d := d ++ [(-1)]) (fun x hx y hy e => by
    have hb : ∀ z ∈ (u ++ [(-1)]) ++ (d ++ [(-1)]), z = -1 ∨ (0 ≤ z ∧ z ≤ 5) := fun z hz => by
      simp only [List.mem_append, List.mem_singleton] at hz
      rcases hz with (hz | hz) | (hz | hz)
      · exact .inr (hg.range.1 z hz)
      · exact .inl hz
      · exact .inr (hg.range.2 z hz)
      · exact .inl hz
    have hx' := hb x hx
    have hy' := hb y hy
    by_cases ex : x = -1 <;> by_cases ey : y = -1
    · omega
    · rw [if_neg ey, if_pos ex] at e; omega
    · rw [if_pos ey, if_neg ex] at e; omega
    · rw [if_neg ey, if_neg ex] at e; exact e)
  have mu : (u ++ [(-1)]).map (fun z => if z = -1 then (100 : Int) else z) = u ++ [100] := by
    rw [List.map_append]
    congr 1
    conv => rhs; rw [← List.map_id u]
    exact List.map_congr_left fun z hz => by
      have := hg.range.1 z hz
      rw [if_neg (by omega)]
      rfl
  have md : (d ++ [(-1)]).map (fun z => if z = -1 then (100 : Int) else z) = d ++ [100] := by
    rw [List.map_append]
    congr 1
    conv => rhs; rw [← List.map_id d]
    exact List.map_congr_left fun z hz => by
      have := hg.range.2 z hz
      rw [if_neg (by omega)]
      rfl
  rw [mu, md] at hm
  have l1 : (u ++ [(-1)]).length = u.length + 1 := by simp
  have l2 : (d ++ [(-1)]).length = d.length + 1 := by simp
  have l3 : (u ++ [(100 : Int)]).length = u.length + 1 := by simp
  have l4 : (d ++ [(100 : Int)]).length = d.length + 1 := by simp
  refine stepOk_mk (o := (renU (u ++ [(-1)]) (d ++ [(-1)]), renD (u ++ [(-1)]) (d ++ [(-1)]), c)) (ok := ok) (P := u.length + 1 ≤ 6 ∧ d.length + 1 ≤ 6 ∧ c ≤ 6) ?_ ?_ (by rw [l1, l2] at e2; exact e2) fun hk => ⟨e3 hk, .inl rfl, ?_, ?_⟩
  · unfold F_spec_stStep
    rw [own_eq (by omega), bd_of, own_eq (by omega), bd_of]
    show bd (some false) _ = _
    rw [bd_of]
    show bd (gd _ (gd _ _)) _ = _
    rw [gd_t (by simp; omega), gd_t (by simp; omega)]
    exact e1
  · unfold F_impl_State_stepped
    show bd (F_slices_Clone_Sint fu u) _ = _
    rw [clone_eq (by omega), bd_of, clone_eq (by omega), bd_of]
    show bd (gd _ (gd _ _)) _ = _
    rw [gd_t (by simp; omega), gd_t (by simp; omega), bd_of]
    refine (fin_impl (u := u ++ [100]) (d := d ++ [100]) hf (by omega) (by omega) h3).trans ?_
    rw [hm.1, hm.2, l3, l4]
  · intro h
    simp [renU] at h
  · simp [renU, renD]
    omega
theorem step1 (h : GdS (u, d, c)) (hf : 1000 < fu) : StepOk fu u d c 1 := by
  obtain ⟨⟨h1, h2, h3, h4⟩, hn, hr⟩ := h
  simp only at h1 h2 h3 h4
  by_cases hd : d = []
  · subst hd
    refine ⟨([], [], 0), ([], [], 0), false, ?_, ?_, fun h => by cases h⟩
    · unfold F_spec_stStep
      rw [own_eq (by omega), bd_of, own_eq (by simp), bd_of]
      rfl
    · rfl
  · obtain ⟨q, y, rfl⟩ := last_split hd
    have hq : q.length + 1 ≤ 6 := by simpa using h2
    have hw : NCw ((u ++ [y]) ++ q.reverse) := by
      have e : (u ++ [y]) ++ q.reverse = u ++ (q ++ [y]).reverse := by simp
      rw [e]
      exact hn
    obtain ⟨ok, e1, e2, e3⟩ := fin_eq (fu := fu) hf (by simp; omega) (by omega) hw h3
    refine stepOk_mk (o := (renU (u ++ [y]) q, renD (u ++ [y]) q, c)) (ok := ok) ?_ ?_ e2 fun hk => ⟨e3 hk, .inl rfl, ?_, ?_⟩
    · unfold F_spec_stStep
      rw [own_eq (by omega), bd_of, own_eq (by omega), bd_of]
      show bd (some (ilt (isub .i64 (llen (q ++ [y])) 1) 0)) _ = _
      rw [neg_last (by omega), bd_of]
      show bd (gd _ (gd _ (gd _ _))) _ = _
      rw [gd_t (inLLast (by omega)), gatLast (by omega), gd_t (by simp; omega), gd_t (subL_last (by omega)), lsub_last (by omega)]
      exact e1
    · unfold F_impl_State_stepped
      show bd (bif ieq (llen (q ++ [y])) 0 then _ else _) _ = _
      rw [zero_last]
      show bd (F_slices_Clone_Sint fu u) _ = _
      rw [clone_eq (by omega), bd_of, clone_eq (by omega), bd_of]
      show bd (bd (F_impl_last fu (q ++ [y])) _) _ = _
      rw [last_eq (by omega), bd_of, bd_of]
      show bd (gd _ _) _ = _
      rw [gd_t (by simp; omega), bd_of]
      exact fin_impl (u := u ++ [y]) (d := q) hf (by simp; omega) (by omega) h3
    · intro h
      simp [renU] at h
    · simp [renU, renD]
      omega
theorem step2 (h : GdS (u, d, c)) (hf : 1000 < fu) : StepOk fu u d c 2 := by
  obtain ⟨⟨h1, h2, h3, h4⟩, hn, hr⟩ := h
  simp only at h1 h2 h3 h4
  by_cases hu : u = []
  · subst hu
    refine ⟨([], [], 0), ([], [], 0), false, ?_, ?_, fun h => by cases h⟩
    · unfold F_spec_stStep
      rw [own_eq (by simp), bd_of, own_eq (by omega), bd_of]
      rfl
    · rfl
  · obtain ⟨q, x, rfl⟩ := last_split hu
    have hq : q.length + 1 ≤ 6 := by simpa using h1
    have hw : NCw (q ++ (d ++ [x]).reverse) := by
      have e : q ++ (d ++ [x]).reverse = (q ++ [x]) ++ d.reverse := by simp
      rw [e]
      exact hn
    obtain ⟨ok, e1, e2, e3⟩ := fin_eq (fu := fu) hf (by omega) (by simp; omega) hw h3
    refine stepOk_mk (o := (renU q (d ++ [x]), renD q (d ++ [x]), c)) (ok := ok) ?_ ?_ e2 fun hk => ⟨e3 hk, .inl rfl, ?_, ?_⟩
    · unfold F_spec_stStep
      rw [own_eq (by omega), bd_of, own_eq (by omega), bd_of]
      show bd (bif ilt (isub .i64 (llen (q ++ [x])) 1) 0 then _ else _) _ = _
      rw [neg_last (by omega), cond_false]
      show bd (gd _ (gd _ (gd _ _))) _ = _
      rw [gd_t (inLLast (by omega)), gatLast (by omega), gd_t (by simp; omega), gd_t (subL_last (by omega)), lsub_last (by omega)]
      exact e1
    · unfold F_impl_State_stepped
      show bd (some (ieq (llen (q ++ [x])) 0)) _ = _
      rw [zero_last, bd_of]
      show bd (F_slices_Clone_Sint fu (q ++ [x])) _ = _
      rw [clone_eq (by omega), bd_of, clone_eq (by omega), bd_of]
      show bd (bd (F_impl_last fu (q ++ [x])) _) _ = _
      rw [last_eq (by omega), bd_of, bd_of]
      show bd (gd _ _) _ = _
      rw [gd_t (by simp; omega), bd_of]
      exact fin_impl (u := q) (d := d ++ [x]) hf (by omega) (by simp; omega) h3
    · intro h h'
      simp [renD] at h'
    · simp [renU, renD]
      omega
theorem step3 (h : GdS (u, d, c)) (hf : 1000 < fu) : StepOk fu u d c 3 := by
  obtain ⟨⟨h1, h2, h3, h4⟩, hn, hr⟩ := h
  simp only at h1 h2 h3 h4
  by_cases hd : d = []
  · subst hd
    refine ⟨([], [], 0), ([], [], 0), false, ?_, rfl, fun h => by cases h⟩
    unfold F_spec_stStep
    rw [own_eq (by omega), bd_of, own_eq (by simp), bd_of]
    show bd (bif ilt (isub .i64 (llen u) 1) 0 then some true else some true) _ = _
    cases ilt (isub .i64 (llen u) 1) 0 <;> rfl
  · obtain ⟨p, y, rfl⟩ := last_split hd
    have hp : p.length + 1 ≤ 6 := by simpa using h2
    by_cases hu : u = []
    · subst hu
      refine ⟨([], [], 0), ([], [], 0), false, ?_, ?_, fun h => by cases h⟩
      · unfold F_spec_stStep
        rw [own_eq (by simp), bd_of, own_eq (by omega), bd_of]
        rfl
      · unfold F_impl_State_stepped
        show bd (bif ieq (llen (p ++ [y])) 0 then _ else _) _ = _
        rw [zero_last]
        rfl
    · obtain ⟨q, x, rfl⟩ := last_split hu
      have hq : q.length + 1 ≤ 6 := by simpa using h1
      have hw0 : NCw (q ++ x :: y :: p.reverse) := by
        have e : q ++ x :: y :: p.reverse = (q ++ [x]) ++ (p ++ [y]).reverse := by simp
        rw [e]
        exact hn
      have hw : NCw (q.map (jn x y) ++ (p.map (jn x y)).reverse) := by
        rw [← List.map_reverse, ← List.map_append]
        by_cases hxy : x = y
        · subst hxy
          have e : (q ++ p.reverse).map (jn x x) = q ++ p.reverse := by
            conv => rhs; rw [← List.map_id (q ++ p.reverse)]
            exact List.map_congr_left fun z hz => by unfold jn; split <;> simp_all
          rw [e]
          exact hw0.del
        · exact hw0.join hxy
      generalize hc' : (if x = y then c + 1 else c) = c'
      have hcc : c ≤ c' ∧ c' ≤ c + 1 ∧ (c' = c ∨ c' = c + 1) := by rw [← hc']; split <;> omega
      obtain ⟨ok, e1, e2, e3⟩ := fin_eq (fu := fu) hf (by simp; omega) (by simp; omega) hw (by omega : 0 ≤ c')
      refine stepOk_mk (o := (renU (q.map (jn x y)) (p.map (jn x y)), renD (q.map (jn x y)) (p.map (jn x y)), c')) (ok := ok) ?_ ?_ e2 fun hk => ⟨e3 hk, hcc.2.2, ?_, ?_⟩
      · unfold F_spec_stStep
        rw [own_eq (by omega), bd_of, own_eq (by omega), bd_of]
        show bd (bif ilt (isub .i64 (llen (q ++ [x])) 1) 0 then some true else some (ilt (isub .i64 (llen (p ++ [y])) 1) 0)) _ = _
        rw [neg_last (by omega), cond_false, neg_last (by omega), bd_of]
        show bd (gd _ (gd _ (gd _ (gd _ _)))) _ = _
        rw [gd_t (inLLast (by omega)), gd_t (inLLast (by omega)), gatLast (by omega), gatLast (by omega), gd_t (subL_last (by omega)), gd_t (subL_last (by omega)), lsub_last (by omega), lsub_last (by omega)]
        have e : (bif ieq x y then some (iadd .i64 c 1) else some c) = some c' := by
          rw [← hc']
          by_cases hxy : x = y
          · rw [ieq_t hxy, if_pos hxy, iadd_id (by omega) (by omega)]; rfl
          · rw [ieq_f hxy, if_neg hxy]; rfl
        rw [e, bd_of]
        obtain ⟨z1, j1⟩ := jn1 (fu := fu) (a := p) (b := c') (x := x) (y := y) (xs := q) (by omega) hf
        obtain ⟨z2, j2⟩ := jn2 (fu := fu) (a := q.map (jn x y)) (b := c') (x := x) (y := y) (xs := p) (by omega) hf
        rw [j1, bd_of, j2, bd_of]
        exact e1
      · unfold F_impl_State_stepped
        show bd (bif ieq (llen (p ++ [y])) 0 then some true else some (ieq (llen (q ++ [x])) 0)) _ = _
        rw [zero_last, cond_false, zero_last, bd_of]
        show bd (F_slices_Clone_Sint fu (q ++ [x])) _ = _
        rw [clone_eq (by omega), bd_of, clone_eq (by omega), bd_of]
        show bd (bd (F_impl_last fu (q ++ [x])) _) _ = _
        rw [last_eq (by omega), bd_of, bd_of]
        show bd (bd (F_impl_last fu (p ++ [y])) _) _ = _
        rw [last_eq (by omega), bd_of, bd_of]
        show bd (bd (bif ieq x y then some (q, p, iadd .i64 c 1) else some (q, p, c)) _) _ = _
        have e : (bif ieq x y then some (q, p, iadd .i64 c 1) else some (q, p, c)) = some (q, p, c') := by
          rw [← hc']
          by_cases hxy : x = y
          · rw [ieq_t hxy, if_pos hxy, iadd_id (by omega) (by omega)]; rfl
          · rw [ieq_f hxy, if_neg hxy]; rfl
        rw [e, bd_of]
        obtain ⟨z1, j1⟩ := jn3 (fu := fu) (a := p) (b := c') (x := x) (y := y) (xs := q) (by omega) hf
        obtain ⟨z2, j2⟩ := jn4 (fu := fu) (a := q.map (jn x y)) (b := c') (x := x) (y := y) (xs := p) (by omega) hf
        simp only
        rw [j1, bd_of, j2, bd_of, bd_of]
        exact fin_impl (u := q.map (jn x y)) (d := p.map (jn x y)) (c := c') hf (by simp; omega) (by simp; omega) (by omega)
      · intro h h'
        simp only [renU, renD, List.map_eq_nil_iff] at h h'
        subst h h'
        have hx := hw0.1 x (by simp)
        by_cases hxy : x = y
        · rw [← hc', if_pos hxy]
        · have : ¬ y = x := fun e => hxy e.symm
          simp [List.count_cons, this] at hx
      · simp [renU, renD]
        omega
theorem step_ok {k : Int} (h : GdS (u, d, c)) (hf : 1000 < fu) (h0 : 0 ≤ k) (h3 : k < 4) : StepOk fu u d c k := by
  rcases (by omega : k = 0 ∨ k = 1 ∨ k = 2 ∨ k = 3) with rfl | rfl | rfl | rfl
  · exact step0 h hf
  · exact step1 h hf
  · exact step2 h hf
  · exact step3 h hf
end
end Go.Proofs.Ytdbflchpbhkanaa.AL
