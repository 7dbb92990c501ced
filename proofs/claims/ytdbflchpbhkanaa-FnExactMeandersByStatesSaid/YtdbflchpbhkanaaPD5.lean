/- Numbers in the order in which they come first: by a map and by a list. No condition. -/
import Derived.Test.YtdbflchpbhkanaaPD4
import Derived.Test.YtdbflchpbhkanaaGK1
namespace Go.Proofs.Ytdbflchpbhkanaa.AL
open Go
set_option linter.unusedVariables false
set_option linter.unusedSimpArgs false
section
variable {fu : Nat} {x : Int} {xs ys : List Int}
theorem fold_ext : ∀ (w s : List Int), ∃ t, w.foldl addS s = s ++ t
  | [], s => ⟨[], by simp⟩
  | x :: w, s => by
    obtain ⟨t, h⟩ := fold_ext w (addS s x)
    rw [List.foldl_cons, h]
    unfold addS
    split
    · exact ⟨t, rfl⟩
    · exact ⟨x :: t, by simp⟩
theorem pos_ext {s t : List Int} (h : x ∈ s) : posS (s ++ t) x = posS s x := by
  obtain ⟨m, q, rfl, hm⟩ := first_split h
  unfold posS
  rw [tw_eq hm, show m ++ x :: q ++ t = m ++ x :: (q ++ t) by simp, tw_eq hm]
theorem pos_fold {s w : List Int} (h : x ∈ s) : posS (w.foldl addS s) x = posS s x := by
  obtain ⟨t, e⟩ := fold_ext w s
  rw [e, pos_ext h]
theorem pos_new {s : List Int} (h : x ∉ s) : posS (s ++ [x]) x = s.length := by
  unfold posS
  rw [tw_eq h]
theorem pos_lt {s : List Int} (h : x ∈ s) : 0 ≤ posS s x ∧ posS s x < s.length := by
  obtain ⟨m, q, rfl, hm⟩ := first_split h
  unfold posS
  rw [tw_eq hm]
  simp
  omega
theorem pos_inj {s : List Int} {y : Int} (hx : x ∈ s) (hy : y ∈ s) (e : posS s x = posS s y) : x = y := by
  obtain ⟨m, q, h1, hm⟩ := first_split hx
  obtain ⟨m', q', h2, hm'⟩ := first_split hy
  have e1 : posS s x = m.length := by unfold posS; rw [h1, tw_eq hm]
  have e2 : posS s y = m'.length := by unfold posS; rw [h2, tw_eq hm']
  have hl : m.length = m'.length := by omega
  have h3 : m ++ x :: q = m' ++ y :: q' := h1.symm.trans h2
  have := (List.append_inj h3 hl).2
  exact (List.cons.inj this).1
theorem mget_put {k v z : Int} : ∀ m : List (Int × Int), mgetI z (mputI k v m) = if z = k then some v else mgetI z m
  | [] => by simp [mputI, mgetI]
  | e :: r => by
    unfold mputI
    by_cases h : k = e.1
    · rw [if_pos h]
      simp only [mgetI]
      rw [← h]
      by_cases hq : z = k <;> simp [hq]
    · rw [if_neg h]
      simp only [mgetI]
      by_cases hq : z = e.1
      · rw [if_pos hq, if_pos hq, if_neg (fun e' => h (e'.symm.trans hq))]
      · rw [if_neg hq, if_neg hq]
        exact mget_put r
theorem mput_new {k v : Int} : ∀ {m : List (Int × Int)}, mgetI k m = none → mputI k v m = m ++ [(k, v)]
  | [], _ => rfl
  | e :: r, h => by
    unfold mgetI at h
    split at h
    · cases h
    · rename_i hk
      unfold mputI
      rw [if_neg hk, mput_new h]
      rfl
def NmI (s : List Int) (m : List (Int × Int)) : Prop := m.length = s.length ∧ ∀ z, mgetI z m = if z ∈ s then some (posS s z) else none
theorem NmI.add {s : List Int} {m : List (Int × Int)} (h : NmI s m) : NmI (addS s x) (bif bnot (mgetI x m).isSome then mputI x (llen m) m else m) := by
  by_cases hx : x ∈ s
  · rw [h.2 x, if_pos hx]
    unfold addS
    rw [if_pos hx]
    exact h
  · have hn : mgetI x m = none := by rw [h.2 x, if_neg hx]
    rw [hn]
    unfold addS
    rw [if_neg hx]
    show NmI _ (mputI x (llen m) m)
    refine ⟨by rw [mput_new hn]; simp [h.1], fun z => ?_⟩
    rw [mget_put, h.2 z]
    by_cases hz : z = x
    · rw [if_pos hz, if_pos (by simp [hz]), hz, pos_new hx]
      unfold llen
      rw [h.1]
    · rw [if_neg hz]
      by_cases hs : z ∈ s
      · rw [if_pos hs, if_pos (by simp [hs]), pos_ext hs]
      · rw [if_neg hs, if_neg (by simp [hs, hz])]
theorem ren_eq {s0 : List Int} {m0 : List (Int × Int)} (h0 : NmI s0 m0) (hx : xs.length ≤ 1000) (hf : 1000 < fu) : ∃ m, ren_L fu xs 0 [] m0 = some (xs.map (posS (xs.foldl addS s0)), m) ∧ NmI (xs.foldl addS s0) m := by
  obtain ⟨⟨o1, o2⟩, hq, e⟩ := loop_inv (fun n (s : List Int × List (Int × Int)) k => ren_L n xs k s.1 s.2) xs.length (fun k s => s.1 = (xs.take k).map (posS (xs.foldl addS s0)) ∧ NmI ((xs.take k).foldl addS s0) s.2) (fun o => o.1 = xs.map (posS (xs.foldl addS s0)) ∧ NmI (xs.foldl addS s0) o.2)
    (fun n k s hk hp => by
      obtain ⟨l, m⟩ := s
      obtain ⟨h1, h2⟩ := hp
      simp only at h1 h2
      simp only [ren_L]
      rw [ilt_k hk, cond_true, gd_t (inL_nat hk), gat_nat hk, nx hk (by omega), gd_t (by rw [h1]; simp; omega)]
      have h3 := h2.add (x := xs[k])
      generalize (bif bnot (mgetI xs[k] m).isSome then mputI xs[k] (llen m) m else m) = m' at *
      have h4 : xs[k] ∈ addS ((xs.take k).foldl addS s0) xs[k] := mem_addS.2 (.inr rfl)
      have h5 : xs.foldl addS s0 = (xs.drop (k + 1)).foldl addS (addS ((xs.take k).foldl addS s0) xs[k]) := by
        conv => lhs; rw [← List.take_append_drop (k + 1) xs]
        rw [List.foldl_append, tk hk, List.foldl_append]
        rfl
      refine .inr ⟨(lapp l [(mgetI xs[k] m').getD 0], m'), ⟨?_, ?_⟩, rfl⟩
      · simp only
        rw [tk hk, List.map_append, ← h1, h3.2, if_pos h4, h5, List.map_singleton, pos_fold h4]
        rfl
      · simp only
        rw [tk hk, List.foldl_append]
        exact h3)
    (fun n s hp => by
      simp only [ren_L]
      rw [ilt_e, cond_false]
      exact ⟨_, by simpa using hp, rfl⟩) fu ([], m0) (by omega) ⟨by simp, by simpa using h0⟩
  exact ⟨o2, by rw [e]; simp only at hq; rw [hq.1], hq.2⟩
theorem renumbered_eq {u d : List Int} {c : Int} (hu : u.length ≤ 100) (hd : d.length ≤ 100) (hf : 1000 < fu) : F_impl_renumbered fu u d c = some (renU u d, renD u d, c) := by
  unfold F_impl_renumbered
  obtain ⟨m1, e1, n1⟩ := ren_eq (fu := fu) (xs := u) (s0 := []) (m0 := []) ⟨rfl, fun z => by simp [mgetI]⟩ (by omega) hf
  rw [e1, bd_of]
  obtain ⟨m2, e2, n2⟩ := ren_eq (fu := fu) (xs := d) n1 (by omega) hf
  rw [e2, bd_of]
  have h5 : seenS (u ++ d) = d.foldl addS (u.foldl addS []) := by unfold seenS; rw [List.foldl_append]
  unfold renU renD
  rw [h5]
  congr 2
  apply List.map_congr_left
  intro z hz
  rw [pos_fold (mem_fold.2 (.inr hz))]
theorem pos_map {f : Int → Int} {s : List Int} (hx : x ∈ s) (hf : ∀ y ∈ s, f y = f x → y = x) : posS (s.map f) (f x) = posS s x := by
  obtain ⟨m, q, rfl, hm⟩ := first_split hx
  unfold posS
  rw [tw_eq hm, List.map_append, List.map_cons, tw_eq]
  · simp
  · intro h
    obtain ⟨y, hy, e⟩ := List.mem_map.1 h
    exact hm (hf y (by simp [hy]) e ▸ hy)
theorem fold_map {f : Int → Int} : ∀ {w s : List Int}, (∀ x ∈ s ++ w, ∀ y ∈ s ++ w, f y = f x → y = x) → (w.map f).foldl addS (s.map f) = (w.foldl addS s).map f
  | [], s, _ => rfl
  | x :: w, s, h => by
    have e : addS (s.map f) (f x) = (addS s x).map f := by
      unfold addS
      by_cases hx : x ∈ s
      · rw [if_pos hx, if_pos (List.mem_map.2 ⟨x, hx, rfl⟩)]
      · rw [if_neg hx, if_neg (fun hm => ?_)]
        · simp
        · obtain ⟨y, hy, e⟩ := List.mem_map.1 hm
          exact hx (h x (by simp) y (by simp [hy]) e ▸ hy)
    rw [List.map_cons, List.foldl_cons, List.foldl_cons, e, fold_map]
    intro a ha b hb
    refine h a ?_ b ?_
    · rw [List.mem_append, mem_addS] at ha
      simp
      rcases ha with (ha | ha) | ha <;> simp [ha]
    · rw [List.mem_append, mem_addS] at hb
      simp
      rcases hb with (hb | hb) | hb <;> simp [hb]
theorem ren_map {f : Int → Int} {u d : List Int} (h : ∀ x ∈ u ++ d, ∀ y ∈ u ++ d, f y = f x → y = x) : renU (u.map f) (d.map f) = renU u d ∧ renD (u.map f) (d.map f) = renD u d := by
  have e : seenS (u.map f ++ d.map f) = (seenS (u ++ d)).map f := by
    rw [← List.map_append]
    exact fold_map (s := []) (by simpa using h)
  have hp : ∀ z ∈ u ++ d, posS ((seenS (u ++ d)).map f) (f z) = posS (seenS (u ++ d)) z := fun z hz => pos_map (mem_seen'.2 hz) fun y hy => h z hz y (mem_seen'.1 hy)
  unfold renU renD
  rw [e, List.map_map, List.map_map]
  exact ⟨List.map_congr_left fun z hz => hp z (by simp [hz]), List.map_congr_left fun z hz => hp z (by simp [hz])⟩
theorem pos_injOn {u d : List Int} : ∀ x ∈ u ++ d, ∀ y ∈ u ++ d, posS (seenS (u ++ d)) y = posS (seenS (u ++ d)) x → y = x := fun x hx y hy e => pos_inj (mem_seen'.2 hy) (mem_seen'.2 hx) e
theorem ren_ren (u d : List Int) : renU (renU u d) (renD u d) = renU u d ∧ renD (renU u d) (renD u d) = renD u d := ren_map pos_injOn
theorem fold_nodup : ∀ {w s : List Int}, s.Nodup → (w.foldl addS s).Nodup
  | [], _, h => h
  | x :: w, s, h => by
    rw [List.foldl_cons]
    refine fold_nodup ?_
    unfold addS
    split
    · exact h
    · rename_i hx
      rw [List.nodup_append]
      exact ⟨h, by simp, fun a ha b hb => by simp at hb; subst hb; exact fun e => hx (e ▸ ha)⟩
theorem two_len : ∀ {s w : List Int}, s.Nodup → (∀ z ∈ s, w.count z = 2) → 2 * s.length ≤ w.length
  | [], w, _, _ => by simp
  | a :: s, w, hn, h => by
    rw [List.nodup_cons] at hn
    have h1 := two_len (s := s) (w := w.filter (fun z => z != a)) hn.2 fun z hz => by
      have hza : z ≠ a := fun e => hn.1 (e ▸ hz)
      rw [List.count_filter (by simp [hza])]
      exact h z (.tail _ hz)
    have h2 := List.length_eq_countP_add_countP (fun z => z == a) (l := w)
    have h3 : w.countP (fun z => z == a) = 2 := h a (.head _)
    have h4 : (w.filter (fun z => z != a)).length = w.countP (fun z => decide ¬ (z == a) = true) := by
      rw [← List.countP_eq_length_filter]
      congr 1
      funext z
      by_cases hz : z = a <;> simp [hz]
    simp only [List.length_cons]
    omega
theorem ren_range {u d : List Int} (hu : u.length ≤ 6) (hd : d.length ≤ 6) (h : Two (u ++ d.reverse)) : ∀ z ∈ renU u d ++ renD u d, 0 ≤ z ∧ z ≤ 5 := by
  have hm : ∀ z, z ∈ seenS (u ++ d) ↔ z ∈ u ++ d.reverse := fun z => by rw [mem_seen']; simp
  have hl := two_len (s := seenS (u ++ d)) (w := u ++ d.reverse) (fold_nodup (by simp)) fun z hz => h z ((hm z).1 hz)
  simp only [List.length_append, List.length_reverse] at hl
  intro z hz
  unfold renU renD at hz
  rw [← List.map_append] at hz
  obtain ⟨y, hy, rfl⟩ := List.mem_map.1 hz
  have := pos_lt (s := seenS (u ++ d)) (mem_seen'.2 hy)
  omega
end
end Go.Proofs.Ytdbflchpbhkanaa.AL
