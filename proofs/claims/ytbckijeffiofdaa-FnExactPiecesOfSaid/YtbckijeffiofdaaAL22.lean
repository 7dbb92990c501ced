/- AL, part 22: what is owned, item by item, apart from each other. No condition. -/
import Derived.Test.YtbckijeffiofdaaAL21
namespace Go.Proofs.Ytbckijeffiofdaa.AL
open Go Go.RowKit
set_option linter.unusedVariables false
set_option linter.unusedSimpArgs false

/-- A fact about objects of a heap: its footprint is a list of numbers. -/
structure Item where
  P : AH → List Nat → Prop
  loc : ∀ G G' F, (∀ i ∈ F, G'[i]? = G[i]?) → P G F → P G' F
/-- From a number on all are ours. -/
def Up (B : Nat → Prop) (n : Nat) : Prop := ∀ i, n ≤ i → B i
theorem Up.le {B : Nat → Prop} {n m : Nat} (h : Up B n) (hm : n ≤ m) : Up B m := fun i hi => h i (Nat.le_trans hm hi)
/-- All that is new is ours, and nothing else. -/
def Fr (H : AH) : Nat → Prop := fun i => H.length ≤ i
theorem Fr.up (H : AH) : Up (Fr H) H.length := fun _ h => h
/-- What is not ours stands as it was. -/
def AgB (B : Nat → Prop) (H G : AH) : Prop := H.length ≤ G.length ∧ ∀ i, ¬ B i → G[i]? = H[i]?
theorem AgB.refl (B : Nat → Prop) (H : AH) : AgB B H H := ⟨Nat.le_refl _, fun _ _ => rfl⟩
theorem AgB.trans {B : Nat → Prop} {H G K : AH} (a : AgB B H G) (b : AgB B G K) : AgB B H K := ⟨Nat.le_trans a.1 b.1, fun i hi => (b.2 i hi).trans (a.2 i hi)⟩
theorem AgB.ext {B : Nat → Prop} {H G K : AH} (a : AgB B H G) (hB : Up B G.length) (b : Agree G.length G K) : AgB B H K := ⟨Nat.le_trans a.1 b.to_pre.length_le, fun i hi => (b i (by
  rcases Nat.lt_or_ge i G.length with h | h
  · exact h
  · exact absurd (hB i h) hi)).trans (a.2 i hi)⟩
theorem AgB.agree {H G : AH} (a : AgB (Fr H) H G) : Agree H.length H G := fun i hi => a.2 i (by unfold Fr; omega)
theorem AgB.of {H G : AH} (a : Agree H.length H G) : AgB (Fr H) H G := ⟨a.to_pre.length_le, fun i hi => a i (by unfold Fr at hi; omega)⟩
theorem AgB.pre {H G : AH} (a : AgB (Fr H) H G) : H <+: G := a.agree.to_pre
/-- Facts with footprints apart from each other, all ours. -/
def Sep (G : AH) (B : Nat → Prop) (l : List Item) : Prop := ∃ F : Nat → List Nat, (∀ (k : Nat) (it : Item), l[k]? = some it → it.P G (F k) ∧ ∀ i ∈ F k, B i ∧ i < G.length) ∧
  ∀ j k, j < l.length → k < l.length → j ≠ k → ∀ i ∈ F j, i ∉ F k
def emp : Item := ⟨fun _ F => F = [], fun _ _ _ _ h => h⟩
def star (p q : Item) : Item := ⟨fun G F => ∃ A B, F = A ++ B ∧ p.P G A ∧ q.P G B ∧ ∀ i ∈ A, i ∉ B, fun G G' F h ⟨A, B, e, a, b, d⟩ => by
  subst e
  exact ⟨A, B, rfl, p.loc G G' A (fun i hi => h i (List.mem_append_left _ hi)) a, q.loc G G' B (fun i hi => h i (List.mem_append_right _ hi)) b, d⟩⟩
section
variable {P : Program} {G G1 H : AH} {B B' : Nat → Prop} {l l' : List Item} {it it' : Item}
theorem Sep.nil : Sep G B [] := ⟨fun _ => [], fun k it h => by simp at h, fun j k hj => by simp at hj⟩
theorem Sep.get (h : Sep G B l) {k : Nat} (hk : l[k]? = some it) : ∃ F, it.P G F ∧ ∀ i ∈ F, B i ∧ i < G.length := by
  obtain ⟨F, h1, _⟩ := h
  exact ⟨F k, h1 k it hk⟩
/-- A step upon one item. -/
theorem Sep.step (h : Sep G B l) {k : Nat} (hk : l[k]? = some it) (hN : Up B G.length) (R : AH → Prop)
    (op : ∀ F, it.P G F → (∀ i ∈ F, B i ∧ i < G.length) → ∃ G' F', R G' ∧ it'.P G' F' ∧ (∀ i ∈ F', i ∈ F ∨ (G.length ≤ i ∧ i < G'.length)) ∧ G.length ≤ G'.length ∧ ∀ i, i < G.length → i ∉ F → G'[i]? = G[i]?) :
    ∃ G', R G' ∧ Sep G' B (l.set k it') ∧ AgB B G G' ∧ G.length ≤ G'.length := by
  obtain ⟨F, h1, h2⟩ := h
  have hkl := (List.getElem?_eq_some_iff.1 hk).1
  obtain ⟨p1, p2⟩ := h1 k it hk
  obtain ⟨G', F', r, q1, q2, q3, q4⟩ := op (F k) p1 p2
  refine ⟨G', r, ⟨fun j => if j = k then F' else F j, fun j jt hj => ?_, fun a b ha hb hab i hi => ?_⟩, ⟨q3, fun i hi => q4 i (by
    rcases Nat.lt_or_ge i G.length with h | h
    · exact h
    · exact absurd (hN i h) hi) fun hm => ?_⟩, q3⟩
  · by_cases e : j = k
    · subst e
      rw [List.getElem?_set_self hkl] at hj
      cases hj
      simp only [if_true]
      refine ⟨q1, fun i hi => ?_⟩
      rcases q2 i hi with hm | hm
      · have := p2 i hm; exact ⟨this.1, by omega⟩
      · exact ⟨hN i hm.1, hm.2⟩
    · rw [List.getElem?_set_ne (fun x => e x.symm)] at hj
      simp only [e, if_false]
      obtain ⟨s1, s2⟩ := h1 j jt hj
      have hjl := (List.getElem?_eq_some_iff.1 hj).1
      refine ⟨jt.loc G G' _ (fun i hi => q4 i (s2 i hi).2 (h2 j k hjl hkl e i hi)) s1, fun i hi => ?_⟩
      have := s2 i hi; exact ⟨this.1, by omega⟩
  · simp only [List.length_set] at ha hb
    have key : ∀ c, c < l.length → c ≠ k → ∀ i ∈ F', i ∉ F c := fun c hc hck i hi hm => by
      rcases q2 i hi with hf | hf
      · exact h2 k c hkl hc (fun e => hck e.symm) i hf hm
      · have := (h1 c _ (List.getElem?_eq_getElem hc)).2 i hm
        omega
    by_cases ea : a = k
    · have eb : b ≠ k := fun e => hab (ea.trans e.symm)
      simp only [ea, eb, if_true, if_false] at hi ⊢
      exact key b hb eb i hi
    · by_cases eb : b = k
      · simp only [ea, eb, if_true, if_false] at hi ⊢
        exact fun hm => key a ha ea i hm hi
      · simp only [ea, eb, if_false] at hi ⊢
        exact h2 a b ha hb hab i hi
  · exact hi (p2 i hm).1
/-- Items of a later heap, made behind this one. -/
theorem Sep.app (h : Sep G B l) (ha : Agree G.length G G1) (h' : Sep G1 B' l') (hM : ∀ i, B' i → G.length ≤ i) (hN : Up B G.length) : Sep G1 B (l ++ l') := by
  obtain ⟨F, h1, h2⟩ := h
  obtain ⟨F', k1, k2⟩ := h'
  have hl : G.length ≤ G1.length := ha.to_pre.length_le
  refine ⟨fun j => if j < l.length then F j else F' (j - l.length), fun j jt hj => ?_, fun a b hal hbl hab i hi => ?_⟩
  · by_cases e : j < l.length
    · rw [List.getElem?_append_left e] at hj
      simp only [e, if_true]
      obtain ⟨s1, s2⟩ := h1 j jt hj
      refine ⟨jt.loc G G1 _ (fun i hi => ha i (s2 i hi).2) s1, fun i hi => ?_⟩
      have := s2 i hi; exact ⟨this.1, by omega⟩
    · rw [List.getElem?_append_right (by omega)] at hj
      simp only [e, if_false]
      obtain ⟨s1, s2⟩ := k1 _ jt hj
      refine ⟨s1, fun i hi => ?_⟩
      have := s2 i hi; exact ⟨hN i (hM i this.1), this.2⟩
  · rw [List.length_append] at hal hbl
    by_cases ea : a < l.length
    · simp only [ea, if_true] at hi
      have r1 := (h1 a _ (List.getElem?_eq_getElem ea)).2 i hi
      by_cases eb : b < l.length
      · simp only [eb, if_true]
        exact h2 a b ea eb hab i hi
      · simp only [eb, if_false]
        intro hm
        have := hM i ((k1 _ _ (List.getElem?_eq_getElem (by omega : b - l.length < l'.length))).2 i hm).1
        omega
    · simp only [ea, if_false] at hi
      have r1 := hM i ((k1 _ _ (List.getElem?_eq_getElem (by omega : a - l.length < l'.length))).2 i hi).1
      by_cases eb : b < l.length
      · simp only [eb, if_true]
        intro hm
        have := (h1 b _ (List.getElem?_eq_getElem eb)).2 i hm
        omega
      · simp only [eb, if_false]
        exact k2 _ _ (by omega) (by omega) (by omega) i hi
theorem Sep.agree (h : Sep G B l) (ha : Agree G.length G G1) : Sep G1 B l := by
  obtain ⟨F, h1, h2⟩ := h
  have hl : G.length ≤ G1.length := ha.to_pre.length_le
  refine ⟨F, fun k jt hk => ?_, h2⟩
  obtain ⟨s1, s2⟩ := h1 k jt hk
  refine ⟨jt.loc G G1 _ (fun i hi => ha i (s2 i hi).2) s1, fun i hi => ?_⟩
  have := s2 i hi; exact ⟨this.1, by omega⟩
theorem Sep.less (h : Sep G B' l) (hN : ∀ i, B' i → B i) : Sep G B l := by
  obtain ⟨F, h1, h2⟩ := h
  exact ⟨F, fun k jt hk => ⟨(h1 k jt hk).1, fun i hi => ⟨hN i ((h1 k jt hk).2 i hi).1, ((h1 k jt hk).2 i hi).2⟩⟩, h2⟩
/-- Some of the items, in whatever order. -/
theorem Sep.pick (h : Sep G B l) (ks : List Nat) (hd : ks.Nodup) (hl : ks.all (fun k => decide (k < l.length)) = true) : Sep G B (ks.filterMap (fun k : Nat => l[k]?)) := by
  obtain ⟨F, h1, h2⟩ := h
  have e : ∀ (ks : List Nat), ks.all (fun k => decide (k < l.length)) = true → (ks.filterMap (fun k : Nat => l[k]?)).length = ks.length ∧ ∀ j : Nat, (ks.filterMap (fun k : Nat => l[k]?))[j]? = (ks[j]?).bind (fun k : Nat => l[k]?) := by
    intro ks
    induction ks with
    | nil => intro _; simp
    | cons k ks ih =>
      intro hl
      simp only [List.all_cons, Bool.and_eq_true, decide_eq_true_eq] at hl
      obtain ⟨i1, i2⟩ := ih hl.2
      have hk : l[k]? = some l[k] := List.getElem?_eq_getElem hl.1
      constructor
      · simp [List.filterMap_cons, hk, i1]
      · intro j
        cases j with
        | zero => simp [List.filterMap_cons, hk]
        | succ j => simp [List.filterMap_cons, hk, i2]
  obtain ⟨e1, e2⟩ := e ks hl
  have lt : ∀ j (hj : j < ks.length), ks[j] < l.length := fun j hj => by
    have := List.all_eq_true.1 hl ks[j] (List.getElem_mem hj)
    simpa using this
  refine ⟨fun j => F (ks.getD j 0), fun j jt hj => ?_, fun a b ha hb hab i hi => ?_⟩
  · rw [e2] at hj
    cases hk : ks[j]? with
    | none => rw [hk] at hj; simp at hj
    | some k =>
      rw [hk] at hj
      simp only [List.getD_eq_getElem?_getD, hk, Option.getD_some]
      exact h1 k jt hj
  · rw [e1] at ha hb
    simp only [List.getD_eq_getElem?_getD, List.getElem?_eq_getElem ha, List.getElem?_eq_getElem hb, Option.getD_some] at hi ⊢
    refine h2 _ _ (lt a ha) (lt b hb) (fun e => hab ?_) i hi
    exact (List.getElem_inj (h₀ := ha) (h₁ := hb) hd).1 e
/-- Two items as one. -/
theorem Sep.join (h : Sep G B l) {j k : Nat} (hjk : j ≠ k) (hj : l[j]? = some it) (hk : l[k]? = some it') : Sep G B ((l.set j (star it it')).set k emp) := by
  obtain ⟨F, h1, h2⟩ := h
  have jl := (List.getElem?_eq_some_iff.1 hj).1
  have kl := (List.getElem?_eq_some_iff.1 hk).1
  refine ⟨fun m => if m = k then [] else if m = j then F j ++ F k else F m, fun m mt hm => ?_, fun a b ha hb hab i hi => ?_⟩
  · by_cases ek : m = k
    · subst ek
      rw [List.getElem?_set_self (by simpa using kl)] at hm
      cases hm
      simp [emp]
    · rw [List.getElem?_set_ne (fun e => ek e.symm)] at hm
      by_cases ej : m = j
      · subst ej
        rw [List.getElem?_set_self jl] at hm
        cases hm
        simp only [ek, if_true, if_false]
        refine ⟨⟨F m, F k, rfl, (h1 m it hj).1, (h1 k it' hk).1, h2 m k jl kl hjk⟩, fun i hi => ?_⟩
        rcases List.mem_append.1 hi with hi | hi
        · exact (h1 m it hj).2 i hi
        · exact (h1 k it' hk).2 i hi
      · rw [List.getElem?_set_ne (fun e => ej e.symm)] at hm
        simp only [ek, ej, if_false]
        exact h1 m mt hm
  · simp only [List.length_set] at ha hb
    by_cases ak : a = k
    · simp [ak] at hi
    · by_cases bk : b = k
      · simp [bk]
      · by_cases aj : a = j
        · have bj : b ≠ j := fun e => hab (aj.trans e.symm)
          simp only [ak, bk, aj, bj, hjk, if_true, if_false] at hi ⊢
          rcases List.mem_append.1 hi with hi | hi
          · exact h2 j b jl hb (fun e => bj e.symm) i hi
          · exact h2 k b kl hb (fun e => bk e.symm) i hi
        · by_cases bj : b = j
          · simp only [ak, bk, aj, bj, hjk, if_true, if_false] at hi ⊢
            intro hm
            rcases List.mem_append.1 hm with hm | hm
            · exact h2 j a jl ha (fun e => aj e.symm) i hm hi
            · exact h2 k a kl ha (fun e => ak e.symm) i hm hi
          · simp only [ak, bk, aj, bj, if_false] at hi ⊢
            exact h2 a b ha hb hab i hi
/-- An item told otherwise. -/
theorem Sep.turn (h : Sep G B l) {k : Nat} (hk : l[k]? = some it) (op : ∀ F, it.P G F → ∃ F', it'.P G F' ∧ ∀ i ∈ F', i ∈ F) : Sep G B (l.set k it') := by
  obtain ⟨F, h1, h2⟩ := h
  have hkl := (List.getElem?_eq_some_iff.1 hk).1
  obtain ⟨p1, p2⟩ := h1 k it hk
  obtain ⟨F', q1, q2⟩ := op (F k) p1
  refine ⟨fun j => if j = k then F' else F j, fun j jt hj => ?_, fun a b ha hb hab i hi => ?_⟩
  · by_cases e : j = k
    · subst e
      rw [List.getElem?_set_self hkl] at hj
      cases hj
      simp only [if_true]
      exact ⟨q1, fun i hi => p2 i (q2 i hi)⟩
    · rw [List.getElem?_set_ne (fun x => e x.symm)] at hj
      simp only [e, if_false]
      exact h1 j jt hj
  · simp only [List.length_set] at ha hb
    by_cases ea : a = k
    · have eb : b ≠ k := fun e => hab (ea.trans e.symm)
      simp only [ea, eb, if_true, if_false] at hi ⊢
      exact h2 k b hkl hb (fun e => eb e.symm) i (q2 i hi)
    · by_cases eb : b = k
      · simp only [ea, eb, if_true, if_false] at hi ⊢
        exact fun hm => h2 a k ha hkl ea i hi (q2 i hm)
      · simp only [ea, eb, if_false] at hi ⊢
        exact h2 a b ha hb hab i hi
/-- A new object. -/
theorem Sep.new (h : Sep G B l) (hN : Up B G.length) {L : AH} (hi : it.P (G ++ L) [G.length]) (hL : 0 < L.length) : Sep (G ++ L) B (l ++ [it]) := by
  refine h.app (Agree.app G L) (B' := Fr G) (l' := [it]) ⟨fun _ => [G.length], fun k jt hk => ?_, fun j k hj hk hjk => ?_⟩ (fun _ h => h) hN
  · cases k with
    | zero =>
      simp at hk
      subst hk
      exact ⟨hi, fun i hi => by simp at hi; simp [Fr]; omega⟩
    | succ k => simp at hk
  · simp at hj hk
    omega
end

/-! ### A list, its cells all plain or not looked into -/
def ids (v : Value) : List Nat := (idOf v).toList
theorem mem_ids {v : Value} {i : Nat} : i ∈ ids v ↔ idOf v = some i := by simp [ids]
/-- A list that was made (nil where it is told so). -/
def flat (u : Value) (e : TypeId) (cells : List Value) : Item := ⟨fun G F => Own G 0 e u cells ∧ F = ids u, fun G G' F h ⟨a, b⟩ => by
  subst b
  exact ⟨a.at fun i hi => h i (mem_ids.2 hi), rfl⟩⟩
/-- A list that was made, not nil. -/
def flat1 (u : Value) (e : TypeId) (cells : List Value) : Item := ⟨fun G F => Fresh G 0 e u cells ∧ F = ids u, fun G G' F h ⟨a, b⟩ => by
  subst b
  exact ⟨a.at fun i hi => h i (mem_ids.2 hi), rfl⟩⟩
/-- A box: one object, its cells. -/
def BoxAt (G : AH) (p : Value) (cells : List Value) (i : Nat) : Prop := p = ptrAt i 0 0 ∧ ∃ o, G[i]? = some o ∧ o.gen = 0 ∧ o.cells = cells ∧ o.ro = false
def box (p : Value) (cells : List Value) : Item := ⟨fun G F => ∃ i, BoxAt G p cells i ∧ F = [i], fun G G' F h ⟨i, ⟨a, o, b, c⟩, d⟩ => by
  subst d
  exact ⟨i, ⟨a, o, (h i (by simp)).trans b, c⟩, rfl⟩⟩
section
variable {P : Program} {G G1 H : AH} {B : Nat → Prop} {l : List Item} {u s : Value} {cells new : List Value} {t t2 e : TypeId} {k : Nat} {q : EInfo}
theorem Sep.own (h : Sep G B l) (hk : l[k]? = some (flat u e cells)) : Own G 0 e u cells := by
  obtain ⟨F, h1, _⟩ := h.get hk
  exact h1.1
theorem Sep.sl (h : Sep G B l) (hk : l[k]? = some (flat u e cells)) : Sl G u cells := (h.own hk).sl
theorem Sep.fresh (h : Sep G B l) (hk : l[k]? = some (flat1 u e cells)) : Fresh G 0 e u cells := by
  obtain ⟨F, h1, _⟩ := h.get hk
  exact h1.1
theorem Sep.sl1 (h : Sep G B l) (hk : l[k]? = some (flat1 u e cells)) : Sl G u cells := (h.fresh hk).sl
theorem Sep.weak (h : Sep G B l) (hk : l[k]? = some (flat1 u e cells)) : Sep G B (l.set k (flat u e cells)) := h.turn hk fun F ⟨a, b⟩ => ⟨F, ⟨.inr a, b⟩, fun _ h => h⟩
/-- A literal's object, of whatever cells. -/
theorem Sep.lit (h : Sep G B l) (hN : Up B G.length) (e : TypeId) (cells : List Value) (c : Nat) : Sep (G ++ [⟨cells, e, 1, 0, false⟩]) B (l ++ [flat1 (.slice (some ⟨G.length, 0, some 0⟩) cells.length c) e cells]) :=
  h.new hN ⟨⟨G.length, 0, 0, c, _, Nat.zero_le _, rfl, by simp; rfl, rfl, rfl, rfl, rfl, by simp, by simp⟩, rfl⟩ (by simp)
theorem Sep.nilItem (h : Sep G B l) (hN : Up B G.length) (e : TypeId) : Sep G B (l ++ [flat (.slice none 0 0) e []]) :=
  h.app (B' := Fr G) (Agree.refl _ _) ⟨fun _ => [], fun k jt hk => by
    cases k with
    | zero => simp at hk; subst hk; exact ⟨⟨.nil, rfl⟩, fun i hi => by simp at hi⟩
    | succ k => simp at hk, fun j k hj hk hjk i hi => by simp at hi⟩ (fun _ h => h) hN
theorem Own.apx {N : Nat} {q : EInfo} {s : Value} (h : Own G N e u cells) (hN : N ≤ G.length) (he : elemT P t = some e) (hq : einfo P e = some q) (hq1 : q.size = 1) (hd : srcD P t2 = true) (hs : Sl G s new) (hb : cells.length + new.length ≤ 4294967296) :
    ∃ v' G', aAppend P G t t2 u s = some (v', G') ∧ Own G' N e v' (cells ++ new) ∧ G.length ≤ G'.length ∧ (∀ i, i < G.length → idOf u ≠ some i → G'[i]? = G[i]?) ∧ (idOf v' = idOf u ∨ idOf v' = some G.length ∧ G.length < G'.length) := by
  by_cases hn : new = []
  · subst hn
    have hsrc : srcOf G 1 s = some ([], 0) := by
      rcases hs with ⟨rfl, _⟩ | ⟨i, off, g, c, o, rfl, h2, h3, h4, _⟩
      · rfl
      · simp at h4
        simp [srcOf, h2, h4]
    refine ⟨u, G, ?_, by rw [List.append_nil]; exact h, Nat.le_refl _, fun _ _ _ => rfl, .inl rfl⟩
    unfold aAppend
    simp only [he, hq, hq1, hd, hsrc, if_true]
    rcases h with ⟨rfl, _⟩ | ⟨i, off, g, c, o, _, rfl, h1, h2, _⟩
    · rfl
    · have hal : alive G i g = some o := by simp [alive, h1, h2]
      simp only [hal, if_true]
  · obtain ⟨v', G', a, b, c, d, e⟩ := h.append hN he hq hq1 hd hs hn hb
    refine ⟨v', G', a, .inr b, c, d, ?_⟩
    rcases e with e | e
    · exact .inl e
    · exact .inr ⟨e, by have := ((Own.of b).id_lt e).1; omega⟩
/-- Cells behind an own list. -/
theorem Sep.append (h : Sep G B l) (hk : l[k]? = some (flat u e cells)) (hN : Up B G.length) (he : elemT P t = some e) (he2 : elemT P t2 = some e) (hq : einfo P e = some q) (hq1 : q.size = 1) (hs : Sl G s new) (hb : cells.length + new.length ≤ 4294967296) :
    ∃ v' G', aAppend P G t t2 u s = some (v', G') ∧ Sep G' B (l.set k (flat v' e (cells ++ new))) ∧ AgB B G G' ∧ G.length ≤ G'.length ∧ isTup v' = false := by
  have hd : srcD P t2 = true := by unfold srcD; rw [elemT_some he2]
  have ho := h.own hk
  obtain ⟨v', G1, a, b, c, d, e5⟩ := ho.apx (Nat.zero_le _) he hq hq1 hd hs hb
  obtain ⟨G', r, s1, s2, s3⟩ := h.step (it' := flat v' e (cells ++ new)) hk hN (fun G' => G' = G1) fun F ⟨p, pF⟩ hF => by
    refine ⟨G1, ids v', rfl, ⟨b, rfl⟩, fun i hi => ?_, c, fun i hi hm => d i hi fun hu => hm (by rw [pF]; exact mem_ids.2 hu)⟩
    rw [mem_ids] at hi
    rcases e5 with e5 | ⟨e5, e6⟩
    · rw [pF]; exact .inl (mem_ids.2 (e5 ▸ hi))
    · rw [e5] at hi
      simp at hi
      exact .inr (by omega)
  subst r
  exact ⟨v', G', a, s1, s2, s3, b.sl.tup⟩
/-- Elements told one by one, made for the append. -/
theorem Sep.push (h : Sep G B l) (hk : l[k]? = some (flat u e cells)) (hN : Up B G.length) (he : elemT P t = some e) (he2 : elemT P t2 = some e) (hq : einfo P e = some q) (hq1 : q.size = 1) (new : List Value) (n c : Nat) (hn : new.length = n) (hb : cells.length + n ≤ 4294967296) :
    ∃ v' G', aAppend P (G ++ [⟨new, e, 1, 0, false⟩]) t t2 u (.slice (some ⟨G.length, 0, some 0⟩) n c) = some (v', G') ∧ Sep G' B (l.set k (flat v' e (cells ++ new))) ∧ AgB B G G' ∧ G.length ≤ G'.length ∧ isTup v' = false := by
  have ag : Agree G.length G (G ++ [⟨new, e, 1, 0, false⟩]) := Agree.app _ _
  obtain ⟨v', G', a, b, c, d, f⟩ := (h.agree ag).append (s := .slice (some ⟨G.length, 0, some 0⟩) n c) (new := new) hk (hN.le (by simp)) he he2 hq hq1 (Sl.new (n := n) hn) (by omega)
  exact ⟨v', G', a, b, ((AgB.refl B G).ext hN ag).trans c, by simp at d; omega, f⟩
/-- A cell of an own list written. -/
theorem Sep.store (h : Sep G B l) (hk : l[k]? = some (flat u e cells)) (hN : Up B G.length) (hs : sizeT P e = some 1) {j : Nat} {x : Value} (hj : j < cells.length) (hx : isTup x = false) (hc : x.cells = #[x]) :
    ∃ G', aStore P G e (elP u j) x = some G' ∧ Sep G' B (l.set k (flat u e (cells.set j x))) ∧ AgB B G G' ∧ G.length ≤ G'.length := by
  have hf : Fresh G 0 e u cells := by
    rcases h.own hk with ⟨_, rfl⟩ | hf
    · simp at hj
    · exact hf
  obtain ⟨G1, a, b, c, d⟩ := hf.store (P := P) hs hj hx hc
  obtain ⟨G', r, s1, s2, s3⟩ := h.step (it' := flat u e (cells.set j x)) hk hN (fun G' => G' = G1) fun F ⟨p, pF⟩ hF =>
    ⟨G1, ids u, rfl, ⟨.inr b, rfl⟩, fun i hi => .inl (by rw [pF]; exact hi), by omega, fun i hi hm => d i fun hu => hm (by rw [pF]; exact mem_ids.2 hu)⟩
  subst r
  exact ⟨G', a, s1, s2, s3⟩
/-! Boxes -/
theorem Sep.box (h : Sep G B l) (hN : Up B G.length) (e : TypeId) (sz : Nat) (cells : List Value) : Sep (G ++ [⟨cells, e, sz, 0, false⟩]) B (l ++ [AL.box (ptrAt G.length 0 0) cells]) :=
  h.new hN ⟨G.length, ⟨rfl, _, by simp; rfl, rfl, rfl, rfl⟩, rfl⟩ (by simp)
def fldP (p : Value) (off : Nat) : Value := match p with
  | .pointer (some ⟨i, o, g⟩) => .pointer (some ⟨i, o + off, g⟩)
  | v => v
theorem Sep.boxAt (h : Sep G B l) {p : Value} (hk : l[k]? = some (AL.box p cells)) : ∃ i, BoxAt G p cells i ∧ B i ∧ i < G.length := by
  obtain ⟨F, ⟨i, h1, rfl⟩, h2⟩ := h.get hk
  exact ⟨i, h1, h2 i (by simp)⟩
theorem BoxAt.load {p : Value} {i off : Nat} {v : Value} (h : BoxAt G p cells i) (hs : sizeT P e = some 1) (hb : aggT P e = some false) (hv : cells[off]? = some v) : aLoad P G e (fldP p off) = some v := by
  obtain ⟨rfl, o, h1, h2, rfl, _⟩ := h
  have : alive G i 0 = some o := by simp [alive, h1, h2]
  simp [fldP, ptrAt, aLoad, this, hs, hb, hv]
theorem BoxAt.agg {p : Value} {i n : Nat} (h : BoxAt G p cells i) (hs : sizeT P e = some n) (hb : aggT P e = some true) (hn : cells.length = n) : aLoad P G e p = some (.agg cells.toArray) := by
  obtain ⟨rfl, o, h1, h2, rfl, _⟩ := h
  have : alive G i 0 = some o := by simp [alive, h1, h2]
  simp [ptrAt, aLoad, this, hs, hb, hn]
  exact List.take_of_length_le (by omega)
theorem BoxAt.load0 {p : Value} {i : Nat} {v : Value} (h : BoxAt G p [v] i) (hs : sizeT P e = some 1) (hb : aggT P e = some false) : aLoad P G e p = some v := by
  have := h.load (off := 0) hs hb rfl
  obtain ⟨rfl, _⟩ := h
  exact this
theorem BoxAt.field {p : Value} {i f n : Nat} {fs : Array Field} {fl : Field} (h : BoxAt G p cells i) (hu : P.underlying t = some (.struct fs)) (hf : fs[f]? = some fl) (hs : sizeT P fl.type = some (n + 1)) : aFieldAddr P G t p f = some (fldP p fl.offset) := by
  obtain ⟨rfl, o, h1, h2, _⟩ := h
  have : alive G i 0 = some o := by simp [alive, h1, h2]
  simp [ptrAt, aFieldAddr, this, hu, hf, hs, fldP]
theorem BoxAt.at {p : Value} {i : Nat} (h : BoxAt G p cells i) (a : G1[i]? = G[i]?) : BoxAt G1 p cells i := by
  obtain ⟨h0, o, h1, h2⟩ := h
  exact ⟨h0, o, a.trans h1, h2⟩
theorem Sep.put (h : Sep G B l) {p x : Value} {off : Nat} (hk : l[k]? = some (AL.box p cells)) (hN : Up B G.length) (hs : sizeT P e = some 1) (ho : off < cells.length) (hx : isTup x = false) (hc : x.cells = #[x]) :
    ∃ G', aStore P G e (fldP p off) x = some G' ∧ Sep G' B (l.set k (AL.box p (cells.set off x))) ∧ AgB B G G' ∧ G.length ≤ G'.length := by
  obtain ⟨i, ⟨rfl, o, h1, h2, rfl, h3⟩, hi, hil⟩ := h.boxAt hk
  have hal : alive G i 0 = some o := by simp [alive, h1, h2]
  have hst : aStore P G e (fldP (ptrAt i 0 0) off) x = some (G.set i { o with cells := o.cells.set off x }) := by
    have e1 : o.cells.take off ++ [x] ++ o.cells.drop (off + 1) = o.cells.set off x := by
      rw [List.set_eq_take_append_cons_drop, if_pos ho]; simp
    simp only [fldP, ptrAt, Nat.zero_add, aStore, hal, hs, hc]
    rw [if_pos ⟨h3, hx, by simp, by omega⟩]
    simp [← e1]
  obtain ⟨G', r, s1, s2, s3⟩ := h.step (it' := AL.box (ptrAt i 0 0) (o.cells.set off x)) hk hN (fun G' => G' = G.set i { o with cells := o.cells.set off x }) fun F ⟨j, hj, pF⟩ hF => by
    have hij : j = i := by
      have := hj.1
      simp [ptrAt] at this
      exact this.symm
    subst hij
    refine ⟨_, [j], rfl, ⟨j, ⟨rfl, _, List.getElem?_set_self hil, h2, rfl, h3⟩, rfl⟩, fun m hm => .inl (by rw [pF]; exact hm), by simp, fun m hm hne => List.getElem?_set_ne fun e => hne (by rw [pF]; simp [e])⟩
  subst r
  exact ⟨_, hst, s1, s2, s3⟩
end
end Go.Proofs.Ytbckijeffiofdaa.AL
