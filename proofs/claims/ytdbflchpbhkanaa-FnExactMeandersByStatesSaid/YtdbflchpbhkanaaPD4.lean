/- What the small functions about lists answer. No condition. -/
import Derived.Test.YtdbflchpbhkanaaPA1
import Derived.Test.YtdbflchpbhkanaaPD3
namespace Go.Proofs.Ytdbflchpbhkanaa.AL
open Go
set_option linter.unusedVariables false
set_option linter.unusedSimpArgs false
theorem loop_inv {σ ρ : Type} (G : Nat → σ → Int → Option ρ) (len : Nat) (P : Nat → σ → Prop) (Q : ρ → Prop)
    (h : ∀ n k s, k < len → P k s → (∃ out, Q out ∧ G (n + 1) s (k : Int) = some out) ∨ ∃ s', P (k + 1) s' ∧ G (n + 1) s (k : Int) = G n s' ((k + 1 : Nat) : Int))
    (he : ∀ n s, P len s → ∃ out, Q out ∧ G (n + 1) s (len : Int) = some out) : ∀ n s, len < n → P 0 s → ∃ out, Q out ∧ G n s 0 = some out := by
  have key : ∀ (d k n : Nat) (s : σ), k + d = len → d < n → P k s → ∃ out, Q out ∧ G n s (k : Int) = some out := by
    intro d
    induction d with
    | zero =>
      intro k n s hk hn hp
      cases n with
      | zero => omega
      | succ n =>
        obtain rfl : k = len := by omega
        exact he n s hp
    | succ d ih =>
      intro k n s hk hn hp
      cases n with
      | zero => omega
      | succ n =>
        rcases h n k s (by omega) hp with h | ⟨s', hp', e⟩
        · exact h
        · rw [e]
          exact ih (k + 1) n s' (by omega) (by omega) hp'
  intro n s hn hp
  exact key len 0 n s (by omega) hn hp
section
variable {fu : Nat} {x : Int} {xs ys : List Int}
theorem nx {k : Nat} {m : Nat} (h : k < m) (hm : m ≤ 100000) : iadd .i64 (k : Int) 1 = ((k + 1 : Nat) : Int) := by rw [iadd_id (by omega) (by omega)]; omega
theorem tk {k : Nat} (h : k < xs.length) : xs.take (k + 1) = xs.take k ++ [xs[k]] := List.take_succ_eq_append_getElem h
theorem ilt_k {k : Nat} (h : k < xs.length) : ilt (k : Int) (llen xs) = true := ilt_t (by unfold llen; omega)
theorem ilt_e : ilt (xs.length : Int) (llen xs) = false := ilt_f (by unfold llen; omega)
theorem own_eq (h : xs.length ≤ 100000) : F_spec_l1Own fu xs = some xs := by
  unfold F_spec_l1Own
  rw [gd_t (by simp; omega)]
  simp [lapp]
theorem clone_eq (h : xs.length ≤ 100000) : F_slices_Clone_Sint fu xs = some xs := by
  unfold F_slices_Clone_Sint
  rw [gd_t (by simp; omega)]
  simp [lapp]
theorem in_eq (a b c : Int) : F_impl_in fu a b c = some (decide (b ≤ a) && decide (a ≤ c)) := by
  unfold F_impl_in
  rw [ile_eq, ile_eq]
  cases decide (b ≤ a) <;> rfl
theorem l1In_eq (a b c : Int) : F_spec_l1In fu a b c = some (decide (b ≤ a) && decide (a ≤ c)) := by
  unfold F_spec_l1In
  rw [ile_eq, ile_eq]
  cases decide (b ≤ a) <;> rfl
theorem has_eq (hx : xs.length ≤ 100000) (hf : xs.length < fu) : F_spec_l1Has fu xs x = some (decide (x ∈ xs)) := by
  unfold F_spec_l1Has
  obtain ⟨out, hq, e⟩ := loop_inv (fun n (_ : Unit) k => F_spec_l1Has_L1 fu x xs (llen xs) n k) xs.length (fun k _ => x ∉ xs.take k) (fun o => (o = .ret true ∧ x ∈ xs) ∨ ((∃ y, o = .brk y) ∧ x ∉ xs))
    (fun n k _ hk hp => by
      simp only [F_spec_l1Has_L1]
      rw [ilt_k hk, cond_true, gd_t (inL_nat hk), gat_nat hk, nx hk hx]
      by_cases e : xs[k] = x
      · rw [ieq_t e]
        exact .inl ⟨_, .inl ⟨rfl, e ▸ List.getElem_mem hk⟩, rfl⟩
      · rw [ieq_f e]
        exact .inr ⟨(), fun h => (List.mem_append.1 (tk hk ▸ h)).elim hp (fun h => e (List.mem_singleton.1 h).symm), rfl⟩)
    (fun n _ hp => by
      simp only [F_spec_l1Has_L1]
      rw [ilt_e, cond_false]
      exact ⟨_, .inr ⟨⟨_, rfl⟩, by simpa using hp⟩, rfl⟩) fu () hf (by simp)
  rw [e, bd_of]
  rcases hq with ⟨rfl, h⟩ | ⟨⟨y, rfl⟩, h⟩ <;> simp [lr, h]
theorem all_eq {lo hi : Int} (hx : xs.length ≤ 100000) (hf : xs.length < fu) : F_spec_l1All fu xs lo hi = some (decide (∀ z ∈ xs, lo ≤ z ∧ z ≤ hi)) := by
  unfold F_spec_l1All
  obtain ⟨out, hq, e⟩ := loop_inv (fun n (_ : Unit) k => F_spec_l1All_L1 fu lo hi xs (llen xs) n k) xs.length (fun k _ => ∀ z ∈ xs.take k, lo ≤ z ∧ z ≤ hi) (fun o => (o = .ret false ∧ ¬ ∀ z ∈ xs, lo ≤ z ∧ z ≤ hi) ∨ ((∃ y, o = .brk y) ∧ ∀ z ∈ xs, lo ≤ z ∧ z ≤ hi))
    (fun n k _ hk hp => by
      simp only [F_spec_l1All_L1]
      rw [ilt_k hk, cond_true, gd_t (inL_nat hk), gat_nat hk, nx hk hx, l1In_eq, bd_of]
      by_cases e : lo ≤ xs[k] ∧ xs[k] ≤ hi
      · simp only [e.1, e.2, decide_true, Bool.and_self]
        refine .inr ⟨(), fun z hz => ?_, rfl⟩
        rw [tk hk] at hz
        rcases List.mem_append.1 hz with hz | hz
        · exact hp z hz
        · simp at hz; rw [hz]; exact e
      · have : (decide (lo ≤ xs[k]) && decide (xs[k] ≤ hi)) = false := by rw [← Bool.not_eq_true]; simpa using e
        rw [this]
        exact .inl ⟨_, .inl ⟨rfl, fun h => e (h _ (List.getElem_mem hk))⟩, rfl⟩)
    (fun n _ hp => by
      simp only [F_spec_l1All_L1]
      rw [ilt_e, cond_false]
      exact ⟨_, .inr ⟨⟨_, rfl⟩, by simpa using hp⟩, rfl⟩) fu () hf (by simp)
  rw [e, bd_of]
  rcases hq with ⟨rfl, h⟩ | ⟨⟨y, rfl⟩, h⟩
  · simp only [lr, h, decide_false]
  · simp only [lr]
    rw [decide_eq_true h]
theorem same_eq (hx : xs.length ≤ 100000) (hf : xs.length < fu) : F_spec_l1Same fu xs ys = some (decide (xs = ys)) := by
  unfold F_spec_l1Same
  by_cases hl : xs.length = ys.length
  · rw [ine_f (by unfold llen; omega), cond_false]
    obtain ⟨out, hq, e⟩ := loop_inv (fun n (_ : Unit) k => F_spec_l1Same_L1 fu xs ys (llen xs) n k) xs.length (fun k _ => xs.take k = ys.take k) (fun o => (o = .ret false ∧ xs ≠ ys) ∨ ((∃ y, o = .brk y) ∧ xs = ys))
      (fun n k _ hk hp => by
        simp only [F_spec_l1Same_L1]
        rw [ilt_k hk, cond_true, gd_t (inL_nat hk), gd_t (inL_nat (by omega)), gat_nat hk, gat_nat (by omega), nx hk hx]
        by_cases e : xs[k] = ys[k]
        · rw [ine_f e]
          exact .inr ⟨(), take_succ_eq hp hk (by omega) e, rfl⟩
        · rw [ine_t e]
          exact .inl ⟨_, .inl ⟨rfl, fun h => e (by simp [h])⟩, rfl⟩)
      (fun n _ hp => by
        simp only [F_spec_l1Same_L1]
        rw [ilt_e, cond_false]
        exact ⟨_, .inr ⟨⟨_, rfl⟩, by rw [List.take_length, hl, List.take_length] at hp; exact hp⟩, rfl⟩) fu () hf (by simp)
    rw [e, bd_of]
    rcases hq with ⟨rfl, h⟩ | ⟨⟨y, rfl⟩, h⟩ <;> simp [lr, h]
  · rw [ine_t (by unfold llen; omega), cond_true]
    have : xs ≠ ys := fun e => hl (by rw [e])
    simp [this]
def addS (s : List Int) (x : Int) : List Int := if x ∈ s then s else s ++ [x]
def seenS (w : List Int) : List Int := w.foldl addS []
def posS (s : List Int) (x : Int) : Int := ((s.takeWhile (fun z => z != x)).length : Int)
theorem mem_addS {s : List Int} {x z : Int} : z ∈ addS s x ↔ z ∈ s ∨ z = x := by
  unfold addS
  split
  · rename_i hx
    exact ⟨.inl, fun h => h.elim id fun e => e ▸ hx⟩
  · simp
theorem mem_fold : ∀ {w s : List Int} {z : Int}, z ∈ w.foldl addS s ↔ z ∈ s ∨ z ∈ w
  | [], s, z => by simp
  | x :: w, s, z => by rw [List.foldl_cons, mem_fold, mem_addS, List.mem_cons, or_assoc]
theorem mem_seen' {w : List Int} {z : Int} : z ∈ seenS w ↔ z ∈ w := by unfold seenS; rw [mem_fold]; simp
theorem seen_len : ∀ (w s : List Int), (w.foldl addS s).length ≤ s.length + w.length
  | [], s => by simp
  | x :: w, s => by
    rw [List.foldl_cons]
    refine Nat.le_trans (seen_len w _) ?_
    unfold addS
    split <;> simp <;> omega
theorem names2_eq {a b c d e : List Int} {z q : Int} {s : List Int} (h : x ∈ s) (hs : s.length ≤ 1000) (hf : s.length < fu) : ∀ p q r, F_spec_stNames_L2 fu s p x q r z fu 0 = some (posS s x) := by
  intro p q r
  have key : ∀ (m : List Int) (t : List Int) (pre : List Int) (n : Nat), s = pre ++ (m ++ x :: t) → x ∉ m → m.length < n → F_spec_stNames_L2 fu s p x q r z n (pre.length : Int) = some ((pre.length + m.length : Nat) : Int) := by
    intro m
    induction m with
    | nil =>
      intro t pre n e hm hn
      cases n with
      | zero => omega
      | succ n =>
        have hk : pre.length < s.length := by rw [e]; simp
        simp only [F_spec_stNames_L2]
        rw [gd_t (inL_nat hk), gat_nat hk]
        have : s[pre.length] = x := by simp [e]
        rw [this, ine_f rfl, cond_false]
        rfl
    | cons y m ih =>
      intro t pre n e hm hn
      cases n with
      | zero => omega
      | succ n =>
        have hk : pre.length < s.length := by rw [e]; simp
        simp only [F_spec_stNames_L2]
        rw [gd_t (inL_nat hk), gat_nat hk]
        have : s[pre.length] = y := by simp [e]
        have hyx : y ≠ x := fun e => hm (e ▸ .head _)
        rw [this, ine_t hyx, cond_true, nx hk (by omega)]
        have := ih t (pre ++ [y]) n (by rw [e]; simp) (fun h => hm (.tail _ h)) (by simp at hn; omega)
        rw [List.length_append, List.length_singleton] at this
        rw [this, List.length_cons]
        congr 2
        omega
  obtain ⟨m, t, e, hm⟩ := first_split h
  have := key m t [] fu (by simpa using e) hm (by rw [e] at hf; simp at hf; omega)
  unfold posS
  rw [show s.takeWhile (fun z => z != x) = m by rw [e]; exact tw_eq hm]
  simpa using this
theorem names_eq {s : List Int} (hs : s.length ≤ 1000) (hx : xs.length ≤ 1000) (hf : 1000 < fu) (h : ∀ z ∈ xs, z ∈ s) : F_spec_stNames fu xs s = some (xs.map (posS s)) := by
  unfold F_spec_stNames
  obtain ⟨out, hq, e⟩ := loop_inv (fun n (l : List Int) k => F_spec_stNames_L1 fu s xs (llen xs) n l k) xs.length (fun k l => l = (xs.take k).map (posS s)) (fun o => o.1 = xs.map (posS s))
    (fun n k l hk hp => by
      simp only [F_spec_stNames_L1]
      rw [ilt_k hk, cond_true, gd_t (inL_nat hk), gat_nat hk, nx hk (by omega), names2_eq (a := []) (b := []) (c := []) (d := []) (e := []) (q := 0) (h _ (List.getElem_mem hk)) hs (by omega), bd_of, gd_t (by subst hp; simp; omega)]
      exact .inr ⟨_, by rw [hp, tk hk, List.map_append]; rfl, rfl⟩)
    (fun n l hp => by
      simp only [F_spec_stNames_L1]
      rw [ilt_e, cond_false]
      exact ⟨_, by simpa using hp, rfl⟩) fu [] (by omega) (by simp)
  rw [e, bd_of, hq]
theorem seen_eq {a b w : List Int} (hw : w.length ≤ 1000) (hf : 1000 < fu) : ∃ y, F_spec_stRename_L1 fu a b w (llen w) fu [] 0 = some (seenS w, y) := by
  obtain ⟨⟨o1, o2⟩, hq, e⟩ := loop_inv (fun n (l : List Int) k => F_spec_stRename_L1 fu a b w (llen w) n l k) w.length (fun k l => l = (w.take k).foldl addS []) (fun o => o.1 = seenS w)
    (fun n k l hk hp => by
      have hl : l.length ≤ k := by
        rw [hp]
        refine Nat.le_trans (seen_len _ _) ?_
        simp
        omega
      simp only [F_spec_stRename_L1]
      rw [ilt_k hk, cond_true, gd_t (inL_nat hk), gat_nat hk, nx hk (by omega), has_eq (by omega) (by omega), bd_of]
      refine .inr ⟨addS l w[k], by rw [tk hk, List.foldl_append, ← hp]; rfl, ?_⟩
      unfold addS
      by_cases hm : w[k] ∈ l
      · rw [if_pos hm, decide_eq_true hm]
        rfl
      · rw [if_neg hm, decide_eq_false hm]
        show gd _ _ = _
        rw [gd_t (by simp; omega)]
        rfl)
    (fun n l hp => by
      simp only [F_spec_stRename_L1]
      rw [ilt_e, cond_false]
      exact ⟨_, by rw [hp]; simp [seenS], rfl⟩) fu [] (by omega) (by simp)
  exact ⟨o2, by rw [e]; simp only at hq; rw [hq]⟩
def renU (u d : List Int) : List Int := u.map (posS (seenS (u ++ d)))
def renD (u d : List Int) : List Int := d.map (posS (seenS (u ++ d)))
theorem rename_eq {u d : List Int} (hu : u.length ≤ 100) (hd : d.length ≤ 100) (hf : 1000 < fu) : F_spec_stRename fu u d = some (renU u d, renD u d) := by
  have hl := seen_len (u ++ d) []
  simp only [List.length_nil, List.length_append] at hl
  unfold F_spec_stRename
  obtain ⟨y, e⟩ := seen_eq (fu := fu) (a := u) (b := d) (w := u ++ d) (by simp; omega) hf
  rw [own_eq (by omega), bd_of, gd_t (by omega)]
  show bd (F_spec_stRename_L1 fu u d (u ++ d) (llen (u ++ d)) fu [] 0) _ = _
  rw [e, bd_of]
  simp only
  rw [names_eq (by unfold seenS; omega) (by omega) hf (fun z hz => mem_seen'.2 (by simp [hz])), bd_of, names_eq (by unfold seenS; omega) (by omega) hf (fun z hz => mem_seen'.2 (by simp [hz])), bd_of]
  rfl
end
end Go.Proofs.Ytdbflchpbhkanaa.AL
