/- Points that are joined: what is reached, by a queue and by bits; arcs of parts. No condition. -/
namespace Go.Proofs.Ytigpmjebldgekaa.Grp
set_option linter.unusedVariables false
set_option linter.unusedSimpArgs false
inductive Reach (t b : Nat → Nat) (i : Nat) : Nat → Prop
  | refl : Reach t b i i
  | top {j : Nat} : Reach t b i j → Reach t b i (t j)
  | bot {j : Nat} : Reach t b i j → Reach t b i (b j)
structure Inv (n : Nat) (t : Nat → Nat) : Prop where
  lt : ∀ i, i < n → t i < n
  tw : ∀ i, i < n → t (t i) = i
section
variable {n : Nat} {t b : Nat → Nat} (ht : Inv n t) (hb : Inv n b)
include ht hb
theorem Reach.lt {i j : Nat} (hi : i < n) (h : Reach t b i j) : j < n := by
  induction h with
  | refl => exact hi
  | top _ ih => exact ht.lt _ ih
  | bot _ ih => exact hb.lt _ ih
omit ht hb in
theorem Reach.trans {i j k : Nat} (h : Reach t b i j) (h' : Reach t b j k) : Reach t b i k := by
  induction h' with
  | refl => exact h
  | top _ ih => exact ih.top
  | bot _ ih => exact ih.bot
theorem Reach.symm {i j : Nat} (hi : i < n) (h : Reach t b i j) : Reach t b j i := by
  induction h with
  | refl => exact .refl
  | @top k hk ih =>
    have : Reach t b (t k) (t (t k)) := .top .refl
    rw [ht.tw k (hk.lt ht hb hi)] at this
    exact this.trans ih
  | @bot k hk ih =>
    have : Reach t b (b k) (b (b k)) := .bot .refl
    rw [hb.tw k (hk.lt ht hb hi)] at this
    exact this.trans ih
end
open Classical in
noncomputable def cls (n : Nat) (t b : Nat → Nat) (i : Nat) : List Nat := (List.range n).filter fun j => decide (Reach t b i j)
theorem mem_cls {n : Nat} {t b : Nat → Nat} (ht : Inv n t) (hb : Inv n b) {i j : Nat} (hi : i < n) : j ∈ cls n t b i ↔ Reach t b i j := by
  simp only [cls, List.mem_filter, List.mem_range, decide_eq_true_eq]
  exact ⟨fun h => h.2, fun h => ⟨h.lt ht hb hi, h⟩⟩
theorem cls_nodup {n : Nat} {t b : Nat → Nat} {i : Nat} : (cls n t b i).Nodup := List.Pairwise.filter _ List.nodup_range
theorem cls_sorted {n : Nat} {t b : Nat → Nat} {i : Nat} : (cls n t b i).Pairwise (· < ·) := List.Pairwise.filter _ List.pairwise_lt_range
def Old (t b : Nat → Nat) (i j : Nat) : Prop := ∃ i', i' < i ∧ Reach t b i' j
theorem Old.zero {t b : Nat → Nat} {j : Nat} : ¬ Old t b 0 j := fun ⟨_, h, _⟩ => by omega
theorem Old.succ {t b : Nat → Nat} {i j : Nat} : Old t b (i + 1) j ↔ Old t b i j ∨ Reach t b i j := by
  constructor
  · rintro ⟨i', h, r⟩
    by_cases e : i' = i
    · subst e; exact .inr r
    · exact .inl ⟨i', by omega, r⟩
  · rintro (⟨i', h, r⟩ | r)
    · exact ⟨i', by omega, r⟩
    · exact ⟨i, by omega, r⟩
theorem Old.class {n : Nat} {t b : Nat → Nat} (ht : Inv n t) (hb : Inv n b) {i k : Nat} (hi : i < n) (hn : ¬ Old t b i i) (r : Reach t b i k) : ¬ Old t b i k := by
  rintro ⟨i', h, r'⟩
  exact hn ⟨i', h, r'.trans (r.symm ht hb hi)⟩
theorem Old.succ_of_old {n : Nat} {t b : Nat → Nat} {i j : Nat} (ho : Old t b i i) : Old t b (i + 1) j ↔ Old t b i j := by
  rw [Old.succ]
  constructor
  · rintro (h | r)
    · exact h
    · obtain ⟨i', h, r'⟩ := ho
      exact ⟨i', h, r'.trans r⟩
  · exact .inl
def tip (t b : Nat → Nat) (j : Nat) : Bool := t j == j || b j == j

structure Walk (n : Nat) (t b : Nat → Nat) (i : Nat) (own left : List Nat) (seen : List Bool) (path : Bool) : Prop where
  len : seen.length = n
  sn : ∀ j, j < n → (seen[j]? = some true ↔ Old t b i j ∨ j ∈ own)
  nodup : own.Nodup
  ow : ∀ k ∈ own, Reach t b i k
  lf : ∀ k ∈ left, Reach t b i k
  top : ∀ k ∈ own, t k ∈ own ∨ t k ∈ left
  bot : ∀ k ∈ own, b k ∈ own ∨ b k ∈ left
  first : i ∈ own ∨ i ∈ left
  pa : path = own.any (tip t b)
section
variable {n : Nat} {t b : Nat → Nat} (ht : Inv n t) (hb : Inv n b) {i : Nat} (hi : i < n) (hn : ¬ Old t b i i)
omit hn in
theorem Walk.start {seen : List Bool} (hl : seen.length = n) (hs : ∀ j, j < n → (seen[j]? = some true ↔ Old t b i j)) : Walk n t b i [] [i] seen false :=
  ⟨hl, fun j hj => by rw [hs j hj]; simp, .nil, by simp, by simp [Reach.refl], by simp, by simp, .inr (by simp), by simp⟩
include ht hb hi hn
theorem Walk.skip {own left : List Nat} {seen : List Bool} {path : Bool} {k : Nat} (h : Walk n t b i own (k :: left) seen path) (hk : seen[k]? = some true) : Walk n t b i own left seen path := by
  have rk := h.lf k (by simp)
  have hko : k ∈ own := by
    rcases (h.sn k (rk.lt ht hb hi)).1 hk with o | o
    · exact absurd o (Old.class ht hb hi hn rk)
    · exact o
  have w : ∀ m, m ∈ own ∨ m ∈ k :: left → m ∈ own ∨ m ∈ left := by
    intro m hm
    rcases hm with hm | hm
    · exact .inl hm
    · rcases List.mem_cons.1 hm with rfl | hm
      · exact .inl hko
      · exact .inr hm
  exact ⟨h.len, h.sn, h.nodup, h.ow, fun m hm => h.lf m (by simp [hm]), fun m hm => w _ (h.top m hm), fun m hm => w _ (h.bot m hm), w _ h.first, h.pa⟩
omit hn in
theorem Walk.take {own left : List Nat} {seen : List Bool} {path : Bool} {k : Nat} (h : Walk n t b i own (k :: left) seen path) (hk : seen[k]? = some false) :
    Walk n t b i (own ++ [k]) (left ++ [t k, b k]) (seen.set k true) (path || tip t b k) := by
  have rk := h.lf k (by simp)
  have hkn := rk.lt ht hb hi
  have hko : k ∉ own := fun ho => by
    have := (h.sn k hkn).2 (.inr ho)
    rw [hk] at this; cases this
  have w : ∀ m, m ∈ own ∨ m ∈ k :: left → m ∈ own ++ [k] ∨ m ∈ left ++ [t k, b k] := by
    intro m hm
    rcases hm with hm | hm
    · exact .inl (by simp [hm])
    · rcases List.mem_cons.1 hm with rfl | hm
      · exact .inl (by simp)
      · exact .inr (by simp [hm])
  refine ⟨by simp [h.len], fun j hj => ?_, ?_, ?_, ?_, ?_, ?_, w _ h.first, ?_⟩
  · by_cases e : k = j
    · subst e
      rw [List.getElem?_set_self (by rw [h.len]; exact hkn)]
      simp
    · rw [List.getElem?_set_ne e, h.sn j hj]
      simp only [List.mem_append, List.mem_singleton]
      constructor
      · rintro (o | o)
        · exact .inl o
        · exact .inr (.inl o)
      · rintro (o | o | o)
        · exact .inl o
        · exact .inr o
        · exact absurd o.symm e
  · rw [List.nodup_append]
    refine ⟨h.nodup, by simp, fun x hx y hy e => ?_⟩
    simp at hy
    subst hy; subst e
    exact hko hx
  · intro m hm
    rcases List.mem_append.1 hm with hm | hm
    · exact h.ow m hm
    · simp at hm; subst hm; exact rk
  · intro m hm
    rcases List.mem_append.1 hm with hm | hm
    · exact h.lf m (by simp [hm])
    · simp at hm
      rcases hm with rfl | rfl
      · exact rk.top
      · exact rk.bot
  · intro m hm
    rcases List.mem_append.1 hm with hm | hm
    · exact w _ (h.top m hm)
    · simp at hm; subst hm; exact .inr (by simp)
  · intro m hm
    rcases List.mem_append.1 hm with hm | hm
    · exact w _ (h.bot m hm)
    · simp at hm; subst hm; exact .inr (by simp)
  · rw [List.any_append, h.pa]
    simp
omit ht hb hi hn in
theorem Walk.all {own : List Nat} {seen : List Bool} {path : Bool} (h : Walk n t b i own [] seen path) {j : Nat} (r : Reach t b i j) : j ∈ own := by
  induction r with
  | refl => simpa using h.first
  | top _ ih => simpa using h.top _ ih
  | bot _ ih => simpa using h.bot _ ih
omit hn in
theorem Walk.perm {own : List Nat} {seen : List Bool} {path : Bool} (h : Walk n t b i own [] seen path) : own.Perm (cls n t b i) :=
  (List.perm_ext_iff_of_nodup h.nodup cls_nodup).2 fun j => by
    rw [mem_cls ht hb hi]
    exact ⟨h.ow j, h.all⟩
omit ht hb hi hn in
theorem Walk.end_seen {own : List Nat} {seen : List Bool} {path : Bool} (h : Walk n t b i own [] seen path) : ∀ j, j < n → (seen[j]? = some true ↔ Old t b (i + 1) j) := by
  intro j hj
  rw [h.sn j hj, Old.succ]
  exact ⟨fun x => x.elim .inl fun y => .inr (h.ow j y), fun x => x.elim .inl fun y => .inr (h.all y)⟩
omit hn in
theorem Walk.end_path {own : List Nat} {seen : List Bool} {path : Bool} (h : Walk n t b i own [] seen path) : path = (cls n t b i).any (tip t b) := by
  rw [h.pa]
  exact (h.perm ht hb hi).any_eq
omit hn in
theorem Walk.sorted {own : List Nat} {seen : List Bool} {path : Bool} (h : Walk n t b i own [] seen path) :
    (own.map Int.ofNat).mergeSort (fun x y => decide (x ≤ y)) = (cls n t b i).map Int.ofNat := by
  refine List.Perm.eq_of_pairwise (le := fun a b => decide (a ≤ b) = true) (fun a b _ _ h1 h2 => by simp at h1 h2; omega) ?_ ?_ ?_
  · exact List.pairwise_mergeSort (fun a b c h1 h2 => by simp at *; omega) (fun a b => by simp; omega) _
  · rw [List.pairwise_map]
    exact cls_sorted.imp fun h => by simp; omega
  · exact (List.mergeSort_perm _ _).trans ((h.perm ht hb hi).map _)
end

def Sub (m m' : Nat) : Prop := ∀ j, m.testBit j = true → m'.testBit j = true
theorem Sub.refl (m : Nat) : Sub m m := fun _ h => h
theorem Sub.trans {a b c : Nat} (h : Sub a b) (k : Sub b c) : Sub a c := fun j x => k j (h j x)
def bitStep (t b : Nat → Nat) (m j : Nat) : Nat := if m.testBit j then m ||| (2 ^ t j ||| 2 ^ b j) else m
theorem bitStep_sub {t b : Nat → Nat} {m j : Nat} : Sub m (bitStep t b m j) := by
  intro k h
  unfold bitStep
  split
  · rw [Nat.testBit_or, h, Bool.true_or]
  · exact h
theorem bitStep_bit {t b : Nat → Nat} {m j k : Nat} (h : (bitStep t b m j).testBit k = true) : m.testBit k = true ∨ (m.testBit j = true ∧ (k = t j ∨ k = b j)) := by
  unfold bitStep at h
  split at h
  · rename_i hj
    rw [Nat.testBit_or, Nat.testBit_or, Nat.testBit_two_pow, Nat.testBit_two_pow] at h
    simp at h
    rcases h with h | h | h
    · exact .inl h
    · exact .inr ⟨hj, .inl h.symm⟩
    · exact .inr ⟨hj, .inr h.symm⟩
  · exact .inl h
theorem bitStep_has {t b : Nat → Nat} {m j : Nat} (h : m.testBit j = true) : (bitStep t b m j).testBit (t j) = true ∧ (bitStep t b m j).testBit (b j) = true := by
  unfold bitStep
  rw [if_pos h, Nat.testBit_or, Nat.testBit_or, Nat.testBit_or, Nat.testBit_or]
  simp [Nat.testBit_two_pow]
def bitPass (t b : Nat → Nat) (m : Nat) (l : List Nat) : Nat := l.foldl (bitStep t b) m
theorem bitPass_sub {t b : Nat → Nat} : ∀ {l : List Nat} {m : Nat}, Sub m (bitPass t b m l)
  | [], m => .refl m
  | j :: l, m => bitStep_sub.trans (bitPass_sub (l := l))
theorem bitPass_has {t b : Nat → Nat} : ∀ {l : List Nat} {m j : Nat}, j ∈ l → m.testBit j = true → (bitPass t b m l).testBit (t j) = true ∧ (bitPass t b m l).testBit (b j) = true
  | k :: l, m, j, hj, h => by
    rcases List.mem_cons.1 hj with rfl | hj
    · obtain ⟨h1, h2⟩ := bitStep_has (t := t) (b := b) h
      exact ⟨bitPass_sub (l := l) _ h1, bitPass_sub (l := l) _ h2⟩
    · exact bitPass_has (l := l) hj (bitStep_sub _ h)
theorem bitPass_all {t b : Nat → Nat} {Q : Nat → Prop} (ht : ∀ j, Q j → Q (t j)) (hb : ∀ j, Q j → Q (b j)) : ∀ {l : List Nat} {m : Nat}, (∀ j, m.testBit j = true → Q j) → ∀ j, (bitPass t b m l).testBit j = true → Q j
  | [], m, h => h
  | k :: l, m, h => bitPass_all ht hb (l := l) fun j hj => by
    rcases bitStep_bit hj with h1 | ⟨h1, rfl | rfl⟩
    · exact h j h1
    · exact ht _ (h k h1)
    · exact hb _ (h k h1)
def shut (n : Nat) (t b : Nat → Nat) (m : Nat) : Prop := ∀ j, j < n → m.testBit j = true → m.testBit (t j) = true ∧ m.testBit (b j) = true
theorem bitStep_shut {t b : Nat → Nat} {n m j : Nat} (h : shut n t b m) (hj : j < n) : bitStep t b m j = m := by
  unfold bitStep
  split
  · rename_i hm
    obtain ⟨h1, h2⟩ := h j hj hm
    refine Nat.eq_of_testBit_eq fun k => ?_
    rw [Nat.testBit_or, Nat.testBit_or, Nat.testBit_two_pow, Nat.testBit_two_pow]
    by_cases e : t j = k
    · subst e; simp [h1]
    · by_cases e' : b j = k
      · subst e'; simp [h2]
      · simp [e, e']
  · rfl
theorem bitPass_shut {t b : Nat → Nat} {n : Nat} : ∀ {l : List Nat} {m : Nat}, shut n t b m → (∀ j ∈ l, j < n) → bitPass t b m l = m
  | [], m, _, _ => rfl
  | j :: l, m, h, hl => by
    show bitPass t b (bitStep t b m j) l = m
    rw [bitStep_shut h (hl j (by simp))]
    exact bitPass_shut h fun k hk => hl k (by simp [hk])
def card (n m : Nat) : Nat := (List.range n).countP fun j => m.testBit j
theorem countP_lt {p q : Nat → Bool} : ∀ {l : List Nat} {x : Nat}, (∀ j ∈ l, p j = true → q j = true) → x ∈ l → p x = false → q x = true → l.countP p < l.countP q
  | y :: l, x, h, hx, hp, hq => by
    have h' : ∀ j ∈ l, p j = true → q j = true := fun j hj => h j (by simp [hj])
    rw [List.countP_cons, List.countP_cons]
    rcases List.mem_cons.1 hx with rfl | hx
    · have := List.countP_mono_left (l := l) h'
      simp [hp, hq]; omega
    · have := countP_lt h' hx hp hq
      have hy := h y (by simp)
      cases hpy : p y
      · simp; split <;> omega
      · simp [hy hpy, this]
theorem card_le {n m : Nat} : card n m ≤ n := by
  have := List.countP_le_length (p := fun j => m.testBit j) (l := List.range n)
  simpa [card] using this
theorem card_up {n m : Nat} {t b : Nat → Nat} (ht : ∀ i, i < n → t i < n) (hb : ∀ i, i < n → b i < n) (h : ¬ shut n t b m) : card n m < card n (bitPass t b m (List.range n)) := by
  have : ∃ j, j < n ∧ m.testBit j = true ∧ (m.testBit (t j) = false ∨ m.testBit (b j) = false) := Classical.byContradiction fun hc => h fun j hj hm => by
    constructor
    · cases e : m.testBit (t j)
      · exact absurd ⟨j, hj, hm, .inl e⟩ hc
      · rfl
    · cases e : m.testBit (b j)
      · exact absurd ⟨j, hj, hm, .inr e⟩ hc
      · rfl
  obtain ⟨j, hj, hm, hx⟩ := this
  have hs := bitPass_has (t := t) (b := b) (l := List.range n) (List.mem_range.2 hj) hm
  rcases hx with hx | hx
  · exact countP_lt (fun k _ h => bitPass_sub k h) (List.mem_range.2 (ht j hj)) hx hs.1
  · exact countP_lt (fun k _ h => bitPass_sub k h) (List.mem_range.2 (hb j hj)) hx hs.2
def bitRuns (n : Nat) (t b : Nat → Nat) : Nat → Nat → Nat
  | 0, m => m
  | k + 1, m => bitRuns n t b k (bitPass t b m (List.range n))
theorem bitRuns_shut {n : Nat} {t b : Nat → Nat} (ht : ∀ i, i < n → t i < n) (hb : ∀ i, i < n → b i < n) : ∀ {k m : Nat}, n < card n m + k ∨ shut n t b m → shut n t b (bitRuns n t b k m)
  | 0, m, h => by
    rcases h with h | h
    · have := card_le (n := n) (m := m); omega
    · exact h
  | k + 1, m, h => by
    refine bitRuns_shut ht hb (k := k) ?_
    by_cases hc : shut n t b m
    · rw [bitPass_shut hc (by simp)]
      exact .inr hc
    · rcases h with h | h
      · have := card_up ht hb hc
        exact .inl (by omega)
      · exact absurd h hc
theorem bitRuns_sub {n : Nat} {t b : Nat → Nat} : ∀ {k m : Nat}, Sub m (bitRuns n t b k m)
  | 0, m => .refl m
  | k + 1, m => bitPass_sub.trans (bitRuns_sub (k := k))
theorem bitRuns_all {n : Nat} {t b : Nat → Nat} {Q : Nat → Prop} (ht : ∀ j, Q j → Q (t j)) (hb : ∀ j, Q j → Q (b j)) : ∀ {k m : Nat}, (∀ j, m.testBit j = true → Q j) → ∀ j, (bitRuns n t b k m).testBit j = true → Q j
  | 0, m, h => h
  | k + 1, m, h => bitRuns_all ht hb (k := k) (bitPass_all ht hb h)
theorem bitRuns_reach {n : Nat} {t b : Nat → Nat} (ht : Inv n t) (hb : Inv n b) {i : Nat} (hi : i < n) (j : Nat) : (bitRuns n t b n (2 ^ i)).testBit j = true ↔ Reach t b i j := by
  constructor
  · refine bitRuns_all (Q := fun j => Reach t b i j) (fun j h => h.top) (fun j h => h.bot) (fun j h => ?_) j
    rw [Nat.testBit_two_pow] at h
    simp at h
    subst h
    exact .refl
  · intro r
    have hs : shut n t b (bitRuns n t b n (2 ^ i)) := bitRuns_shut ht.lt hb.lt (.inl (by
      have : 0 < card n (2 ^ i) := List.countP_pos_iff.2 ⟨i, List.mem_range.2 hi, by simp [Nat.testBit_two_pow]⟩
      omega))
    induction r with
    | refl => exact bitRuns_sub _ (by simp [Nat.testBit_two_pow])
    | top r ih => exact (hs _ (r.lt ht hb hi) ih).1
    | bot r ih => exact (hs _ (r.lt ht hb hi) ih).2
noncomputable def told (n : Nat) (t b : Nat → Nat) (p : Bool) : Nat → List (List Int)
  | 0 => []
  | i + 1 => open Classical in if Old t b i i then told n t b p i else if (cls n t b i).any (tip t b) = p then told n t b p i ++ [(cls n t b i).map Int.ofNat] else told n t b p i
def arcL : Nat → List Nat → List Nat
  | _, [] => []
  | from', n :: ps => (List.range n).map (fun i => from' + n - 1 - i) ++ arcL (from' + n) ps
theorem arcL_len : ∀ (f : Nat) (ps : List Nat), (arcL f ps).length = ps.sum
  | _, [] => rfl
  | f, n :: ps => by simp [arcL, arcL_len]
theorem arcL_get : ∀ (f : Nat) (ps : List Nat) (j : Nat), j < ps.sum → ∃ k, k < ps.sum ∧ (arcL f ps)[j]? = some (f + k) ∧ (arcL f ps)[k]? = some (f + j)
  | f, [], j, h => by simp at h
  | f, n :: ps, j, h => by
    simp only [List.sum_cons] at h
    by_cases c : j < n
    · refine ⟨n - 1 - j, by simp only [List.sum_cons]; omega, ?_, ?_⟩
      · rw [arcL, List.getElem?_append_left (by simpa using c)]
        simp [c]; omega
      · rw [arcL, List.getElem?_append_left (by simp; omega)]
        simp [show n - 1 - j < n by omega]; omega
    · obtain ⟨k, hk, e1, e2⟩ := arcL_get (f + n) ps (j - n) (by omega)
      refine ⟨n + k, by simp only [List.sum_cons]; omega, ?_, ?_⟩
      · rw [arcL, List.getElem?_append_right (by simp; omega)]
        simp only [List.length_map, List.length_range]
        rw [e1]; simp; omega
      · rw [arcL, List.getElem?_append_right (by simp)]
        simp only [List.length_map, List.length_range]
        rw [show n + k - n = k by omega, e2]; simp; omega
def arcF (ps : List Nat) (j : Nat) : Nat := (arcL 0 ps).getD j 0
theorem arcF_inv (ps : List Nat) : Inv ps.sum (arcF ps) := by
  refine ⟨fun i hi => ?_, fun i hi => ?_⟩
  · obtain ⟨k, hk, e1, e2⟩ := arcL_get 0 ps i hi
    simp [arcF, List.getD_eq_getElem?_getD, e1]; exact hk
  · obtain ⟨k, hk, e1, e2⟩ := arcL_get 0 ps i hi
    have : arcF ps i = k := by simp [arcF, List.getD_eq_getElem?_getD, e1]
    rw [this]
    simp [arcF, List.getD_eq_getElem?_getD, e2]
theorem arcF_map (ps : List Nat) : (List.range ps.sum).map (arcF ps) = arcL 0 ps := by
  apply List.ext_getElem?
  intro j
  by_cases h : j < ps.sum
  · obtain ⟨k, hk, e1, e2⟩ := arcL_get 0 ps j h
    simp [h, arcF, e1, List.getD_eq_getElem?_getD]
  · rw [List.getElem?_eq_none (by simp; omega), List.getElem?_eq_none (by rw [arcL_len]; omega)]
theorem told_len {n : Nat} {t b : Nat → Nat} {p : Bool} : ∀ i, (told n t b p i).length ≤ i
  | 0 => by simp [told]
  | i + 1 => by
    have := told_len (n := n) (t := t) (b := b) (p := p) i
    unfold told
    split
    · omega
    · split
      · simp; omega
      · omega
end Go.Proofs.Ytigpmjebldgekaa.Grp
