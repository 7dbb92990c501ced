/- AL, the parts 22, 23, 24, 25, 26, 27, 28, 29, 30, 31, 33, 34, 35, 36: code told on an abstract heap. No condition. -/
import Derived.Test.YtdbflchpbhkanaaALB
namespace Go.Proofs.Ytdbflchpbhkanaa.AL
open Go Go.RowKit
attribute [local simp] aBin' aBin aBinI aUn aNil flatV
set_option linter.unusedVariables false
set_option linter.unusedSimpArgs false

structure Item where
  P : AH → List Nat → Prop
  loc : ∀ G G' F, (∀ i ∈ F, G'[i]? = G[i]?) → P G F → P G' F
def Up (B : Nat → Prop) (n : Nat) : Prop := ∀ i, n ≤ i → B i
theorem Up.le {B : Nat → Prop} {n m : Nat} (h : Up B n) (hm : n ≤ m) : Up B m := fun i hi => h i (Nat.le_trans hm hi)
def Fr (H : AH) : Nat → Prop := fun i => H.length ≤ i
theorem Fr.up (H : AH) : Up (Fr H) H.length := fun _ h => h
def AgB (B : Nat → Prop) (H G : AH) : Prop := H.length ≤ G.length ∧ ∀ i, ¬ B i → G[i]? = H[i]?
theorem AgB.refl (B : Nat → Prop) (H : AH) : AgB B H H := ⟨Nat.le_refl _, fun _ _ => rfl⟩
theorem AgB.trans {B : Nat → Prop} {H G K : AH} (a : AgB B H G) (b : AgB B G K) : AgB B H K := ⟨Nat.le_trans a.1 b.1, fun i hi => (b.2 i hi).trans (a.2 i hi)⟩
theorem AgB.ext {B : Nat → Prop} {H G K : AH} (a : AgB B H G) (hB : Up B G.length) (b : Agree G.length G K) : AgB B H K := ⟨Nat.le_trans a.1 b.to_pre.length_le, fun i hi => (b i (by
  rcases Nat.lt_or_ge i G.length with h | h
  · exact h
  · exact absurd (hB i h) hi)).trans (a.2 i hi)⟩
theorem AgB.agree {H G : AH} (a : AgB (Fr H) H G) : Agree H.length H G := fun i hi => a.2 i (by unfold Fr; omega)
theorem AgB.of {H G : AH} (a : Agree H.length H G) : AgB (Fr H) H G := ⟨a.to_pre.length_le, fun i hi => a i (by unfold Fr at hi; omega)⟩
theorem AgB.pre {H G : AH} (a : AgB (Fr H) H G) : H <+: G := a.agree.to_pre
def Sep (G : AH) (B : Nat → Prop) (l : List Item) : Prop := ∃ F : Nat → List Nat, (∀ (k : Nat) (it : Item), l[k]? = some it → it.P G (F k) ∧ ∀ i ∈ F k, B i ∧ i < G.length) ∧
  ∀ j k, j < l.length → k < l.length → j ≠ k → ∀ i ∈ F j, i ∉ F k
def emp : Item := ⟨fun _ F => F = [], fun _ _ _ _ h => h⟩
def star (p q : Item) : Item := ⟨fun G F => ∃ A B, F = A ++ B ∧ p.P G A ∧ q.P G B ∧ ∀ i ∈ A, i ∉ B, fun G G' F h ⟨A, B, e, a, b, d⟩ => by
  subst e
  exact ⟨A, B, rfl, p.loc G G' A (fun i hi => h i (List.mem_append_left _ hi)) a, q.loc G G' B (fun i hi => h i (List.mem_append_right _ hi)) b, d⟩⟩
section
variable {P : Program} {G G1 H : AH} {B B' : Nat → Prop} {l l' : List Item} {it it' : Item}
theorem Sep.nil : Sep G B [] := ⟨fun _ => [], fun k it h => by simp at h, fun j k hj => by simp at hj⟩
theorem Sep.get (h : Sep G B l) {k : Nat} (hk : l[k]? = some it) : ∃ F, it.P G F ∧ ∀ i ∈ F, B i ∧ i < G.length := by
  obtain ⟨F, h1, _⟩ := h
  exact ⟨F k, h1 k it hk⟩
theorem Sep.step (h : Sep G B l) {k : Nat} (hk : l[k]? = some it) (hN : Up B G.length) (R : AH → Prop)
    (op : ∀ F, it.P G F → (∀ i ∈ F, B i ∧ i < G.length) → ∃ G' F', R G' ∧ it'.P G' F' ∧ (∀ i ∈ F', i ∈ F ∨ (G.length ≤ i ∧ i < G'.length)) ∧ G.length ≤ G'.length ∧ ∀ i, i < G.length → i ∉ F → G'[i]? = G[i]?) :
    ∃ G', R G' ∧ Sep G' B (l.set k it') ∧ AgB B G G' ∧ G.length ≤ G'.length := by
  obtain ⟨F, h1, h2⟩ := h
  have hkl := (List.getElem?_eq_some_iff.1 hk).1
  obtain ⟨p1, p2⟩ := h1 k it hk
  obtain ⟨G', F', r, q1, q2, q3, q4⟩ := op (F k) p1 p2
  refine ⟨G', r, ⟨fun j => if j = k then F' else F j, fun j jt hj => ?_, fun a b ha hb hab i hi => ?_⟩, ⟨q3, fun i hi => q4 i (by
    rcases Nat.lt_or_ge i G.length with h | h
    · exact h
    · exact absurd (hN i h) hi) fun hm => ?_⟩, q3⟩
  · by_cases e : j = k
    · subst e
      rw [List.getElem?_set_self hkl] at hj
      cases hj
      simp only [if_true]
      refine ⟨q1, fun i hi => ?_⟩
      rcases q2 i hi with hm | hm
      · have := p2 i hm; exact ⟨this.1, by omega⟩
      · exact ⟨hN i hm.1, hm.2⟩
    · rw [List.getElem?_set_ne (fun x => e x.symm)] at hj
      simp only [e, if_false]
      obtain ⟨s1, s2⟩ := h1 j jt hj
      have hjl := (List.getElem?_eq_some_iff.1 hj).1
      refine ⟨jt.loc G G' _ (fun i hi => q4 i (s2 i hi).2 (h2 j k hjl hkl e i hi)) s1, fun i hi => ?_⟩
      have := s2 i hi; exact ⟨this.1, by omega⟩
  · simp only [List.length_set] at ha hb
    have key : ∀ c, c < l.length → c ≠ k → ∀ i ∈ F', i ∉ F c := fun c hc hck i hi hm => by
      rcases q2 i hi with hf | hf
      · exact h2 k c hkl hc (fun e => hck e.symm) i hf hm
      · have := (h1 c _ (List.getElem?_eq_getElem hc)).2 i hm
        omega
    by_cases ea : a = k
    · have eb : b ≠ k := fun e => hab (ea.trans e.symm)
      simp only [ea, eb, if_true, if_false] at hi ⊢
      exact key b hb eb i hi
    · by_cases eb : b = k
      · simp only [ea, eb, if_true, if_false] at hi ⊢
        exact fun hm => key a ha ea i hm hi
      · simp only [ea, eb, if_false] at hi ⊢
        exact h2 a b ha hb hab i hi
  · exact hi (p2 i hm).1
theorem Sep.app (h : Sep G B l) (ha : Agree G.length G G1) (h' : Sep G1 B' l') (hM : ∀ i, B' i → G.length ≤ i) (hN : Up B G.length) : Sep G1 B (l ++ l') := by
  obtain ⟨F, h1, h2⟩ := h
  obtain ⟨F', k1, k2⟩ := h'
  have hl : G.length ≤ G1.length := ha.to_pre.length_le
  refine ⟨fun j => if j < l.length then F j else F' (j - l.length), fun j jt hj => ?_, fun a b hal hbl hab i hi => ?_⟩
  · by_cases e : j < l.length
    · rw [List.getElem?_append_left e] at hj
      simp only [e, if_true]
      obtain ⟨s1, s2⟩ := h1 j jt hj
      refine ⟨jt.loc G G1 _ (fun i hi => ha i (s2 i hi).2) s1, fun i hi => ?_⟩
      have := s2 i hi; exact ⟨this.1, by omega⟩
    · rw [List.getElem?_append_right (by omega)] at hj
      simp only [e, if_false]
      obtain ⟨s1, s2⟩ := k1 _ jt hj
      refine ⟨s1, fun i hi => ?_⟩
      have := s2 i hi; exact ⟨hN i (hM i this.1), this.2⟩
  · rw [List.length_append] at hal hbl
    by_cases ea : a < l.length
    · simp only [ea, if_true] at hi
      have r1 := (h1 a _ (List.getElem?_eq_getElem ea)).2 i hi
      by_cases eb : b < l.length
      · simp only [eb, if_true]
        exact h2 a b ea eb hab i hi
      · simp only [eb, if_false]
        intro hm
        have := hM i ((k1 _ _ (List.getElem?_eq_getElem (by omega : b - l.length < l'.length))).2 i hm).1
        omega
    · simp only [ea, if_false] at hi
      have r1 := hM i ((k1 _ _ (List.getElem?_eq_getElem (by omega : a - l.length < l'.length))).2 i hi).1
      by_cases eb : b < l.length
      · simp only [eb, if_true]
        intro hm
        have := (h1 b _ (List.getElem?_eq_getElem eb)).2 i hm
        omega
      · simp only [eb, if_false]
        exact k2 _ _ (by omega) (by omega) (by omega) i hi
theorem Sep.agree (h : Sep G B l) (ha : Agree G.length G G1) : Sep G1 B l := by
  obtain ⟨F, h1, h2⟩ := h
  have hl : G.length ≤ G1.length := ha.to_pre.length_le
  refine ⟨F, fun k jt hk => ?_, h2⟩
  obtain ⟨s1, s2⟩ := h1 k jt hk
  refine ⟨jt.loc G G1 _ (fun i hi => ha i (s2 i hi).2) s1, fun i hi => ?_⟩
  have := s2 i hi; exact ⟨this.1, by omega⟩
theorem Sep.less (h : Sep G B' l) (hN : ∀ i, B' i → B i) : Sep G B l := by
  obtain ⟨F, h1, h2⟩ := h
  exact ⟨F, fun k jt hk => ⟨(h1 k jt hk).1, fun i hi => ⟨hN i ((h1 k jt hk).2 i hi).1, ((h1 k jt hk).2 i hi).2⟩⟩, h2⟩
theorem Sep.pick (h : Sep G B l) (ks : List Nat) (hd : ks.Nodup) (hl : ks.all (fun k => decide (k < l.length)) = true) : Sep G B (ks.filterMap (fun k : Nat => l[k]?)) := by
  obtain ⟨F, h1, h2⟩ := h
  have e : ∀ (ks : List Nat), ks.all (fun k => decide (k < l.length)) = true → (ks.filterMap (fun k : Nat => l[k]?)).length = ks.length ∧ ∀ j : Nat, (ks.filterMap (fun k : Nat => l[k]?))[j]? = (ks[j]?).bind (fun k : Nat => l[k]?) := by
    intro ks
    induction ks with
    | nil => intro _; simp
    | cons k ks ih =>
      intro hl
      simp only [List.all_cons, Bool.and_eq_true, decide_eq_true_eq] at hl
      obtain ⟨i1, i2⟩ := ih hl.2
      have hk : l[k]? = some l[k] := List.getElem?_eq_getElem hl.1
      constructor
      · simp [List.filterMap_cons, hk, i1]
      · intro j
        cases j with
        | zero => simp [List.filterMap_cons, hk]
        | succ j => simp [List.filterMap_cons, hk, i2]
  obtain ⟨e1, e2⟩ := e ks hl
  have lt : ∀ j (hj : j < ks.length), ks[j] < l.length := fun j hj => by
    have := List.all_eq_true.1 hl ks[j] (List.getElem_mem hj)
    simpa using this
  refine ⟨fun j => F (ks.getD j 0), fun j jt hj => ?_, fun a b ha hb hab i hi => ?_⟩
  · rw [e2] at hj
    cases hk : ks[j]? with
    | none => rw [hk] at hj; simp at hj
    | some k =>
      rw [hk] at hj
      simp only [List.getD_eq_getElem?_getD, hk, Option.getD_some]
      exact h1 k jt hj
  · rw [e1] at ha hb
    simp only [List.getD_eq_getElem?_getD, List.getElem?_eq_getElem ha, List.getElem?_eq_getElem hb, Option.getD_some] at hi ⊢
    refine h2 _ _ (lt a ha) (lt b hb) (fun e => hab ?_) i hi
    exact (List.getElem_inj (h₀ := ha) (h₁ := hb) hd).1 e
theorem Sep.join (h : Sep G B l) {j k : Nat} (hjk : j ≠ k) (hj : l[j]? = some it) (hk : l[k]? = some it') : Sep G B ((l.set j (star it it')).set k emp) := by
  obtain ⟨F, h1, h2⟩ := h
  have jl := (List.getElem?_eq_some_iff.1 hj).1
  have kl := (List.getElem?_eq_some_iff.1 hk).1
  refine ⟨fun m => if m = k then [] else if m = j then F j ++ F k else F m, fun m mt hm => ?_, fun a b ha hb hab i hi => ?_⟩
  · by_cases ek : m = k
    · subst ek
      rw [List.getElem?_set_self (by simpa using kl)] at hm
      cases hm
      simp [emp]
    · rw [List.getElem?_set_ne (fun e => ek e.symm)] at hm
      by_cases ej : m = j
      · subst ej
        rw [List.getElem?_set_self jl] at hm
        cases hm
        simp only [ek, if_true, if_false]
        refine ⟨⟨F m, F k, rfl, (h1 m it hj).1, (h1 k it' hk).1, h2 m k jl kl hjk⟩, fun i hi => ?_⟩
        rcases List.mem_append.1 hi with hi | hi
        · exact (h1 m it hj).2 i hi
        · exact (h1 k it' hk).2 i hi
      · rw [List.getElem?_set_ne (fun e => ej e.symm)] at hm
        simp only [ek, ej, if_false]
        exact h1 m mt hm
  · simp only [List.length_set] at ha hb
    by_cases ak : a = k
    · simp [ak] at hi
    · by_cases bk : b = k
      · simp [bk]
      · by_cases aj : a = j
        · have bj : b ≠ j := fun e => hab (aj.trans e.symm)
          simp only [ak, bk, aj, bj, hjk, if_true, if_false] at hi ⊢
          rcases List.mem_append.1 hi with hi | hi
          · exact h2 j b jl hb (fun e => bj e.symm) i hi
          · exact h2 k b kl hb (fun e => bk e.symm) i hi
        · by_cases bj : b = j
          · simp only [ak, bk, aj, bj, hjk, if_true, if_false] at hi ⊢
            intro hm
            rcases List.mem_append.1 hm with hm | hm
            · exact h2 j a jl ha (fun e => aj e.symm) i hm hi
            · exact h2 k a kl ha (fun e => ak e.symm) i hm hi
          · simp only [ak, bk, aj, bj, if_false] at hi ⊢
            exact h2 a b ha hb hab i hi
theorem Sep.turn (h : Sep G B l) {k : Nat} (hk : l[k]? = some it) (op : ∀ F, it.P G F → ∃ F', it'.P G F' ∧ ∀ i ∈ F', i ∈ F) : Sep G B (l.set k it') := by
  obtain ⟨F, h1, h2⟩ := h
  have hkl := (List.getElem?_eq_some_iff.1 hk).1
  obtain ⟨p1, p2⟩ := h1 k it hk
  obtain ⟨F', q1, q2⟩ := op (F k) p1
  refine ⟨fun j => if j = k then F' else F j, fun j jt hj => ?_, fun a b ha hb hab i hi => ?_⟩
  · by_cases e : j = k
    · subst e
      rw [List.getElem?_set_self hkl] at hj
      cases hj
      simp only [if_true]
      exact ⟨q1, fun i hi => p2 i (q2 i hi)⟩
    · rw [List.getElem?_set_ne (fun x => e x.symm)] at hj
      simp only [e, if_false]
      exact h1 j jt hj
  · simp only [List.length_set] at ha hb
    by_cases ea : a = k
    · have eb : b ≠ k := fun e => hab (ea.trans e.symm)
      simp only [ea, eb, if_true, if_false] at hi ⊢
      exact h2 k b hkl hb (fun e => eb e.symm) i (q2 i hi)
    · by_cases eb : b = k
      · simp only [ea, eb, if_true, if_false] at hi ⊢
        exact fun hm => h2 a k ha hkl ea i hi (q2 i hm)
      · simp only [ea, eb, if_false] at hi ⊢
        exact h2 a b ha hb hab i hi
theorem Sep.new (h : Sep G B l) (hN : Up B G.length) {L : AH} (hi : it.P (G ++ L) [G.length]) (hL : 0 < L.length) : Sep (G ++ L) B (l ++ [it]) := by
  refine h.app (Agree.app G L) (B' := Fr G) (l' := [it]) ⟨fun _ => [G.length], fun k jt hk => ?_, fun j k hj hk hjk => ?_⟩ (fun _ h => h) hN
  · cases k with
    | zero =>
      simp at hk
      subst hk
      exact ⟨hi, fun i hi => by simp at hi; simp [Fr]; omega⟩
    | succ k => simp at hk
  · simp at hj hk
    omega
end

def ids (v : Value) : List Nat := (idOf v).toList
theorem mem_ids {v : Value} {i : Nat} : i ∈ ids v ↔ idOf v = some i := by simp [ids]
def flat (u : Value) (e : TypeId) (cells : List Value) : Item := ⟨fun G F => Own G 0 e u cells ∧ F = ids u, fun G G' F h ⟨a, b⟩ => by
  subst b
  exact ⟨a.at fun i hi => h i (mem_ids.2 hi), rfl⟩⟩
def flat1 (u : Value) (e : TypeId) (cells : List Value) : Item := ⟨fun G F => Fresh G 0 e u cells ∧ F = ids u, fun G G' F h ⟨a, b⟩ => by
  subst b
  exact ⟨a.at fun i hi => h i (mem_ids.2 hi), rfl⟩⟩
def BoxAt (G : AH) (p : Value) (cells : List Value) (i : Nat) : Prop := p = ptrAt i 0 0 ∧ ∃ o, G[i]? = some o ∧ o.gen = 0 ∧ o.cells = cells ∧ o.ro = false ∧ o.sz = 1
def box (p : Value) (cells : List Value) : Item := ⟨fun G F => ∃ i, BoxAt G p cells i ∧ F = [i], fun G G' F h ⟨i, ⟨a, o, b, c⟩, d⟩ => by
  subst d
  exact ⟨i, ⟨a, o, (h i (by simp)).trans b, c⟩, rfl⟩⟩
section
variable {P : Program} {G G1 H : AH} {B : Nat → Prop} {l : List Item} {u s : Value} {cells new : List Value} {t t2 e : TypeId} {k : Nat} {q : EInfo}
theorem Sep.own (h : Sep G B l) (hk : l[k]? = some (flat u e cells)) : Own G 0 e u cells := by
  obtain ⟨F, h1, _⟩ := h.get hk
  exact h1.1
theorem Sep.sl (h : Sep G B l) (hk : l[k]? = some (flat u e cells)) : Sl G u cells := (h.own hk).sl
theorem Sep.fresh (h : Sep G B l) (hk : l[k]? = some (flat1 u e cells)) : Fresh G 0 e u cells := by
  obtain ⟨F, h1, _⟩ := h.get hk
  exact h1.1
theorem Sep.sl1 (h : Sep G B l) (hk : l[k]? = some (flat1 u e cells)) : Sl G u cells := (h.fresh hk).sl
theorem Sep.weak (h : Sep G B l) (hk : l[k]? = some (flat1 u e cells)) : Sep G B (l.set k (flat u e cells)) := h.turn hk fun F ⟨a, b⟩ => ⟨F, ⟨.inr a, b⟩, fun _ h => h⟩
theorem Sep.lit (h : Sep G B l) (hN : Up B G.length) (e : TypeId) (cells : List Value) (c : Nat) : Sep (G ++ [⟨cells, e, 1, 0, false⟩]) B (l ++ [flat1 (.slice (some ⟨G.length, 0, some 0⟩) cells.length c) e cells]) :=
  h.new hN ⟨⟨G.length, 0, 0, c, _, Nat.zero_le _, rfl, by simp; rfl, rfl, rfl, rfl, rfl, by simp, by simp⟩, rfl⟩ (by simp)
theorem Sep.nilItem (h : Sep G B l) (hN : Up B G.length) (e : TypeId) : Sep G B (l ++ [flat (.slice none 0 0) e []]) :=
  h.app (B' := Fr G) (Agree.refl _ _) ⟨fun _ => [], fun k jt hk => by
    cases k with
    | zero => simp at hk; subst hk; exact ⟨⟨.nil, rfl⟩, fun i hi => by simp at hi⟩
    | succ k => simp at hk, fun j k hj hk hjk i hi => by simp at hi⟩ (fun _ h => h) hN
theorem Own.apx {N : Nat} {q : EInfo} {s : Value} (h : Own G N e u cells) (hN : N ≤ G.length) (he : elemT P t = some e) (hq : einfo P e = some q) (hq1 : q.size = 1) (hd : srcD P t2 = true) (hs : Sl G s new) (hb : cells.length + new.length ≤ 4294967296) :
    ∃ v' G', aAppend P G t t2 u s = some (v', G') ∧ Own G' N e v' (cells ++ new) ∧ G.length ≤ G'.length ∧ (∀ i, i < G.length → idOf u ≠ some i → G'[i]? = G[i]?) ∧ (idOf v' = idOf u ∨ idOf v' = some G.length ∧ G.length < G'.length) := by
  by_cases hn : new = []
  · subst hn
    have hsrc : srcOf G 1 s = some ([], 0) := by
      rcases hs with ⟨rfl, _⟩ | ⟨i, off, g, c, o, rfl, h2, h3, h4, _⟩
      · rfl
      · simp at h4
        simp [srcOf, h2, h4]
    refine ⟨u, G, ?_, by rw [List.append_nil]; exact h, Nat.le_refl _, fun _ _ _ => rfl, .inl rfl⟩
    unfold aAppend
    simp only [he, hq, hq1, hd, hsrc, if_true]
    rcases h with ⟨rfl, _⟩ | ⟨i, off, g, c, o, _, rfl, h1, h2, _⟩
    · rfl
    · have hal : alive G i g = some o := by simp [alive, h1, h2]
      simp only [hal, if_true]
  · obtain ⟨v', G', a, b, c, d, e⟩ := h.append hN he hq hq1 hd hs hn hb
    refine ⟨v', G', a, .inr b, c, d, ?_⟩
    rcases e with e | e
    · exact .inl e
    · exact .inr ⟨e, by have := ((Own.of b).id_lt e).1; omega⟩
theorem Sep.append (h : Sep G B l) (hk : l[k]? = some (flat u e cells)) (hN : Up B G.length) (he : elemT P t = some e) (he2 : elemT P t2 = some e) (hq : einfo P e = some q) (hq1 : q.size = 1) (hs : Sl G s new) (hb : cells.length + new.length ≤ 4294967296) :
    ∃ v' G', aAppend P G t t2 u s = some (v', G') ∧ Sep G' B (l.set k (flat v' e (cells ++ new))) ∧ AgB B G G' ∧ G.length ≤ G'.length ∧ isTup v' = false := by
  have hd : srcD P t2 = true := by unfold srcD; rw [elemT_some he2]
  have ho := h.own hk
  obtain ⟨v', G1, a, b, c, d, e5⟩ := ho.apx (Nat.zero_le _) he hq hq1 hd hs hb
  obtain ⟨G', r, s1, s2, s3⟩ := h.step (it' := flat v' e (cells ++ new)) hk hN (fun G' => G' = G1) fun F ⟨p, pF⟩ hF => by
    refine ⟨G1, ids v', rfl, ⟨b, rfl⟩, fun i hi => ?_, c, fun i hi hm => d i hi fun hu => hm (by rw [pF]; exact mem_ids.2 hu)⟩
    rw [mem_ids] at hi
    rcases e5 with e5 | ⟨e5, e6⟩
    · rw [pF]; exact .inl (mem_ids.2 (e5 ▸ hi))
    · rw [e5] at hi
      simp at hi
      exact .inr (by omega)
  subst r
  exact ⟨v', G', a, s1, s2, s3, b.sl.tup⟩
theorem Sep.push (h : Sep G B l) (hk : l[k]? = some (flat u e cells)) (hN : Up B G.length) (he : elemT P t = some e) (he2 : elemT P t2 = some e) (hq : einfo P e = some q) (hq1 : q.size = 1) (new : List Value) (n c : Nat) (hn : new.length = n) (hb : cells.length + n ≤ 4294967296) :
    ∃ v' G', aAppend P (G ++ [⟨new, e, 1, 0, false⟩]) t t2 u (.slice (some ⟨G.length, 0, some 0⟩) n c) = some (v', G') ∧ Sep G' B (l.set k (flat v' e (cells ++ new))) ∧ AgB B G G' ∧ G.length ≤ G'.length ∧ isTup v' = false := by
  have ag : Agree G.length G (G ++ [⟨new, e, 1, 0, false⟩]) := Agree.app _ _
  obtain ⟨v', G', a, b, c, d, f⟩ := (h.agree ag).append (s := .slice (some ⟨G.length, 0, some 0⟩) n c) (new := new) hk (hN.le (by simp)) he he2 hq hq1 (Sl.new (n := n) hn) (by omega)
  exact ⟨v', G', a, b, ((AgB.refl B G).ext hN ag).trans c, by simp at d; omega, f⟩
theorem Sep.store (h : Sep G B l) (hk : l[k]? = some (flat u e cells)) (hN : Up B G.length) (hs : sizeT P e = some 1) {j : Nat} {x : Value} (hj : j < cells.length) (hx : isTup x = false) (hc : x.cells = #[x]) :
    ∃ G', aStore P G e (elP u j) x = some G' ∧ Sep G' B (l.set k (flat u e (cells.set j x))) ∧ AgB B G G' ∧ G.length ≤ G'.length := by
  have hf : Fresh G 0 e u cells := by
    rcases h.own hk with ⟨_, rfl⟩ | hf
    · simp at hj
    · exact hf
  obtain ⟨G1, a, b, c, d⟩ := hf.store (P := P) hs hj hx hc
  obtain ⟨G', r, s1, s2, s3⟩ := h.step (it' := flat u e (cells.set j x)) hk hN (fun G' => G' = G1) fun F ⟨p, pF⟩ hF =>
    ⟨G1, ids u, rfl, ⟨.inr b, rfl⟩, fun i hi => .inl (by rw [pF]; exact hi), by omega, fun i hi hm => d i fun hu => hm (by rw [pF]; exact mem_ids.2 hu)⟩
  subst r
  exact ⟨G', a, s1, s2, s3⟩
theorem Sep.box (h : Sep G B l) (hN : Up B G.length) (e : TypeId) (cells : List Value) : Sep (G ++ [⟨cells, e, 1, 0, false⟩]) B (l ++ [AL.box (ptrAt G.length 0 0) cells]) :=
  h.new hN ⟨G.length, ⟨rfl, _, by simp; rfl, rfl, rfl, rfl, rfl⟩, rfl⟩ (by simp)
def fldP (p : Value) (off : Nat) : Value := match p with
  | .pointer (some ⟨i, o, g⟩) => .pointer (some ⟨i, o + off, g⟩)
  | v => v
theorem Sep.boxAt (h : Sep G B l) {p : Value} (hk : l[k]? = some (AL.box p cells)) : ∃ i, BoxAt G p cells i ∧ B i ∧ i < G.length := by
  obtain ⟨F, ⟨i, h1, rfl⟩, h2⟩ := h.get hk
  exact ⟨i, h1, h2 i (by simp)⟩
theorem BoxAt.load {p : Value} {i off : Nat} {v : Value} (h : BoxAt G p cells i) (hs : sizeT P e = some 1) (hb : aggT P e = some false) (hv : cells[off]? = some v) : aLoad P G e (fldP p off) = some v := by
  obtain ⟨rfl, o, h1, h2, rfl, _⟩ := h
  have : alive G i 0 = some o := by simp [alive, h1, h2]
  simp [fldP, ptrAt, aLoad, this, hs, hb, hv]
theorem BoxAt.agg {p : Value} {i n : Nat} (h : BoxAt G p cells i) (hs : sizeT P e = some n) (hb : aggT P e = some true) (hn : cells.length = n) : aLoad P G e p = some (.agg cells.toArray) := by
  obtain ⟨rfl, o, h1, h2, rfl, _⟩ := h
  have : alive G i 0 = some o := by simp [alive, h1, h2]
  simp [ptrAt, aLoad, this, hs, hb, hn]
  exact List.take_of_length_le (by omega)
theorem BoxAt.load0 {p : Value} {i : Nat} {v : Value} (h : BoxAt G p [v] i) (hs : sizeT P e = some 1) (hb : aggT P e = some false) : aLoad P G e p = some v := by
  have := h.load (off := 0) hs hb rfl
  obtain ⟨rfl, _⟩ := h
  exact this
theorem BoxAt.field {p : Value} {i f n : Nat} {fs : Array Field} {fl : Field} (h : BoxAt G p cells i) (hu : P.underlying t = some (.struct fs)) (hf : fs[f]? = some fl) (hs : sizeT P fl.type = some (n + 1)) : aFieldAddr P G t p f = some (fldP p fl.offset) := by
  obtain ⟨rfl, o, h1, h2, _⟩ := h
  have : alive G i 0 = some o := by simp [alive, h1, h2]
  simp [ptrAt, aFieldAddr, this, hu, hf, hs, fldP]
theorem BoxAt.at {p : Value} {i : Nat} (h : BoxAt G p cells i) (a : G1[i]? = G[i]?) : BoxAt G1 p cells i := by
  obtain ⟨h0, o, h1, h2⟩ := h
  exact ⟨h0, o, a.trans h1, h2⟩
theorem Sep.put (h : Sep G B l) {p x : Value} {off : Nat} (hk : l[k]? = some (AL.box p cells)) (hN : Up B G.length) (hs : sizeT P e = some 1) (ho : off < cells.length) (hx : isTup x = false) (hc : x.cells = #[x]) :
    ∃ G', aStore P G e (fldP p off) x = some G' ∧ Sep G' B (l.set k (AL.box p (cells.set off x))) ∧ AgB B G G' ∧ G.length ≤ G'.length := by
  obtain ⟨i, ⟨rfl, o, h1, h2, rfl, h3⟩, hi, hil⟩ := h.boxAt hk
  have hal : alive G i 0 = some o := by simp [alive, h1, h2]
  have hst : aStore P G e (fldP (ptrAt i 0 0) off) x = some (G.set i { o with cells := o.cells.set off x }) := by
    have e1 : o.cells.take off ++ [x] ++ o.cells.drop (off + 1) = o.cells.set off x := by
      rw [List.set_eq_take_append_cons_drop, if_pos ho]; simp
    simp only [fldP, ptrAt, Nat.zero_add, aStore, hal, hs, hc]
    rw [if_pos ⟨h3.1, hx, by simp, by omega⟩]
    simp [← e1]
  obtain ⟨G', r, s1, s2, s3⟩ := h.step (it' := AL.box (ptrAt i 0 0) (o.cells.set off x)) hk hN (fun G' => G' = G.set i { o with cells := o.cells.set off x }) fun F ⟨j, hj, pF⟩ hF => by
    have hij : j = i := by
      have := hj.1
      simp [ptrAt] at this
      exact this.symm
    subst hij
    refine ⟨_, [j], rfl, ⟨j, ⟨rfl, _, List.getElem?_set_self hil, h2, rfl, h3⟩, rfl⟩, fun m hm => .inl (by rw [pF]; exact hm), by simp, fun m hm hne => List.getElem?_set_ne fun e => hne (by rw [pF]; simp [e])⟩
  subst r
  exact ⟨_, hst, s1, s2, s3⟩
end
end Go.Proofs.Ytdbflchpbhkanaa.AL
namespace Go.Proofs.Ytdbflchpbhkanaa.AL
open Go Go.RowKit
attribute [local simp] aBin' aBin aBinI aUn aNil flatV
set_option linter.unusedVariables false
set_option linter.unusedSimpArgs false

def gd {α : Type} (c : Prop) [Decidable c] (k : Option α) : Option α := if c then k else none
theorem gd_some {α : Type} {c : Prop} [Decidable c] {k : Option α} {r : α} (h : gd c k = some r) : c ∧ k = some r := by
  unfold gd at h
  split at h
  · exact ⟨by assumption, h⟩
  · cases h
theorem gd_true {α : Type} {c : Prop} [Decidable c] {k : Option α} (h : c) : gd c k = k := if_pos h
def bd {α β : Type} (x : Option β) (k : β → Option α) : Option α := match x with
  | some b => k b
  | none => none
theorem bd_some {α β : Type} {x : Option β} {k : β → Option α} {r : α} (h : bd x k = some r) : ∃ b, x = some b ∧ k b = some r := by
  unfold bd at h
  split at h
  · exact ⟨_, rfl, h⟩
  · cases h
@[simp] theorem bd_of {α β : Type} {b : β} {k : β → Option α} : bd (some b) k = k b := rfl
inductive LR (ρ σ : Type) | ret (r : ρ) | brk (s : σ)
deriving DecidableEq
def lr {ρ σ : Type} (x : LR ρ σ) (k : σ → Option ρ) : Option ρ := match x with
  | .ret r => some r
  | .brk s => k s

def M63 : Nat := 9223372036854775807
def wrF (k : IntKind) (x : Int) : Int := match k with
  | .i64 => (match x with
    | .ofNat m => bif Nat.ble m M63 then .ofNat m else IntKind.i64.wrap (.ofNat m)
    | .negSucc m => bif Nat.ble m M63 then .negSucc m else IntKind.i64.wrap (.negSucc m))
  | k => k.wrap x
theorem wrF_big {m : Nat} {x y : Int} (h : m ≤ M63 → x = y) : (bif Nat.ble m M63 then x else y) = y := by
  by_cases c : m ≤ M63
  · rw [Nat.ble_eq_true_of_le c, cond_true, h c]
  · rw [Bool.eq_false_iff.2 fun q => c (Nat.le_of_ble_eq_true q), cond_false]
theorem wrF_eq (k : IntKind) (x : Int) : wrF k x = k.wrap x := by
  cases k with
  | i64 =>
    cases x with
    | ofNat m =>
      refine wrF_big fun h => (wrap_id ?_ ?_).symm
      · simp only [Int.ofNat_eq_natCast]; omega
      · unfold M63 at h; simp only [Int.ofNat_eq_natCast]; omega
    | negSucc m =>
      refine wrF_big fun h => (wrap_id ?_ ?_).symm
      · unfold M63 at h; rw [Int.negSucc_eq]; omega
      · rw [Int.negSucc_eq]; omega
  | _ => rfl
def iwr (k : IntKind) (a : Int) : Int := wrF k a
def iadd (k : IntKind) (a b : Int) : Int := wrF k (a + b)
def isub (k : IntKind) (a b : Int) : Int := wrF k (a - b)
def imul (k : IntKind) (a b : Int) : Int := wrF k (a * b)
def iquo (k : IntKind) (a b : Int) : Int := k.wrap (a.tdiv b)
def irem (a b : Int) : Int := a.tmod b
def iand (k : IntKind) (a b : Int) : Int := k.wrap (BitVec.ofInt k.bits a &&& BitVec.ofInt k.bits b).toNat
def ilt (a b : Int) : Bool := match a, b with
  | .ofNat m, .ofNat n => Nat.blt m n
  | .ofNat _, .negSucc _ => false
  | .negSucc _, .ofNat _ => true
  | .negSucc m, .negSucc n => Nat.blt n m
theorem ilt_eq (a b : Int) : ilt a b = decide (a < b) := by
  cases a <;> cases b <;> simp only [ilt] <;> rw [Bool.eq_iff_iff] <;> simp [Nat.blt_eq, Int.negSucc_eq] <;> omega
def ile (a b : Int) : Bool := match a, b with
  | .ofNat m, .ofNat n => Nat.ble m n
  | .ofNat _, .negSucc _ => false
  | .negSucc _, .ofNat _ => true
  | .negSucc m, .negSucc n => Nat.ble n m
theorem ile_eq (a b : Int) : ile a b = decide (a ≤ b) := by
  cases a <;> cases b <;> simp only [ile] <;> rw [Bool.eq_iff_iff] <;> simp [Nat.ble_eq, Int.negSucc_eq] <;> omega
def ieq (a b : Int) : Bool := match a, b with
  | .ofNat m, .ofNat n => Nat.beq m n
  | .ofNat _, .negSucc _ => false
  | .negSucc _, .ofNat _ => false
  | .negSucc m, .negSucc n => Nat.beq m n
theorem ieq_eq (a b : Int) : ieq a b = (a == b) := by
  cases a <;> cases b <;> simp only [ieq] <;> rw [Bool.eq_iff_iff] <;> simp [Nat.beq_eq, Int.negSucc_eq] <;> omega
def ine (a b : Int) : Bool := !ieq a b
theorem ine_eq (a b : Int) : ine a b = (a != b) := by rw [ine, ieq_eq]; rfl
def bne' (a b : Bool) : Bool := !(a == b)
def bnot (a : Bool) : Bool := !a
def llen {α : Type} (xs : List α) : Int := xs.length
def nthD {α : Type} (d : α) : List α → Nat → α
  | [], _ => d
  | x :: _, 0 => x
  | _ :: xs, n + 1 => nthD d xs n
theorem nthD_eq {α : Type} (d : α) : ∀ (xs : List α) (n : Nat), nthD d xs n = xs.getD n d
  | [], n => by simp [nthD]
  | x :: xs, 0 => by simp [nthD]
  | x :: xs, n + 1 => by simp [nthD, nthD_eq d xs n]
def gat {α : Type} (d : α) (xs : List α) (i : Int) : α := nthD d xs i.toNat
theorem gat_eq {α : Type} (d : α) (xs : List α) (i : Int) : gat d xs i = xs.getD i.toNat d := nthD_eq d xs i.toNat
def lapp {α : Type} (xs ys : List α) : List α := xs ++ ys
def lset {α : Type} (xs : List α) (i : Int) (x : α) : List α := xs.set i.toNat x
def lrep {α : Type} (n : Int) (x : α) : List α := List.replicate n.toNat x
def lsub {α : Type} (xs : List α) (a b : Int) : List α := (xs.drop a.toNat).take (b.toNat - a.toNat)
def inL {α : Type} (xs : List α) (i : Int) : Prop := 0 ≤ i ∧ i < xs.length
def inLB {α : Type} (xs : List α) (i : Int) : Bool := match i with
  | .ofNat n => Nat.blt n xs.length
  | .negSucc _ => false
theorem inLB_iff {α : Type} {xs : List α} {i : Int} : inLB xs i = true ↔ inL xs i := by
  unfold inL
  cases i <;> simp [inLB, Nat.blt_eq, Int.negSucc_eq] <;> omega
instance {α : Type} (xs : List α) (i : Int) : Decidable (inL xs i) := match h : inLB xs i with
  | true => isTrue (inLB_iff.1 h)
  | false => isFalse fun q => by rw [inLB_iff.2 q] at h; cases h
def subL {α : Type} (xs : List α) (a b : Int) : Prop := 0 ≤ a ∧ a ≤ b ∧ b ≤ xs.length
instance {α : Type} (xs : List α) (a b : Int) : Decidable (subL xs a b) := inferInstanceAs (Decidable (0 ≤ a ∧ a ≤ b ∧ b ≤ xs.length))
def inS (s : ByteArray) (i : Int) : Prop := 0 ≤ i ∧ i < s.size
instance (s : ByteArray) (i : Int) : Decidable (inS s i) := inferInstanceAs (Decidable (0 ≤ i ∧ i < s.size))
def subS (s : ByteArray) (a b : Int) : Prop := 0 ≤ a ∧ a ≤ b ∧ b ≤ s.size
instance (s : ByteArray) (a b : Int) : Decidable (subS s a b) := inferInstanceAs (Decidable (0 ≤ a ∧ a ≤ b ∧ b ≤ s.size))
theorem cd_t {α : Type} {c : Bool} {a b : Option α} {r : α} (h : c = true) (hF : (bif c then a else b) = some r) : a = some r := by subst h; exact hF
theorem cd_f {α : Type} {c : Bool} {a b : Option α} {r : α} (h : c = false) (hF : (bif c then a else b) = some r) : b = some r := by subst h; exact hF

section
variable {P : Program} {H : AH} {t : TypeId} {k : IntKind} {a b : Int} {p q : Bool} {x y : ByteArray}
theorem b_add : aBin' P H .add t (.int k a) (.int k b) = some (.int k (iadd k a b)) := by simp [iadd, wrF_eq]
theorem b_sub : aBin' P H .sub t (.int k a) (.int k b) = some (.int k (isub k a b)) := by simp [isub, wrF_eq]
theorem b_mul : aBin' P H .mul t (.int k a) (.int k b) = some (.int k (imul k a b)) := by simp [imul, wrF_eq]
theorem b_quo (h : b ≠ 0) : aBin' P H .quo t (.int k a) (.int k b) = some (.int k (iquo k a b)) := by simp [iquo, h]
theorem b_rem (h : b ≠ 0) : aBin' P H .rem t (.int k a) (.int k b) = some (.int k (irem a b)) := by simp [irem, h]
theorem b_lt : aBin' P H .lss t (.int k a) (.int k b) = some (.bool (ilt a b)) := by simp [ilt_eq]
theorem b_le : aBin' P H .leq t (.int k a) (.int k b) = some (.bool (ile a b)) := by simp [ile_eq]
theorem b_gt : aBin' P H .gtr t (.int k a) (.int k b) = some (.bool (ilt b a)) := by simp [ilt_eq]
theorem b_ge : aBin' P H .geq t (.int k a) (.int k b) = some (.bool (ile b a)) := by simp [ile_eq]
theorem b_eq : aBin' P H .eql t (.int k a) (.int k b) = some (.bool (ieq a b)) := by simp [ieq_eq]
theorem b_ne : aBin' P H .neq t (.int k a) (.int k b) = some (.bool (ine a b)) := by simp [ine_eq]
theorem b_and : aBin' P H .and t (.int k a) (.int k b) = some (.int k (iand k a b)) := by simp [iand, aBits]
theorem b_bne (h : P.underlying t = some .bool) : aBin' P H .neq t (.bool p) (.bool q) = some (.bool (bne' p q)) := by simp [bne', h, eqB]
theorem u_not : aUn .not (.bool p) = some (.bool (bnot p)) := by simp [aUn, bnot]
end

theorem DWp.cond' {P : Program} {nt : Nat} {env : Env} {H : AH} {Q : Exit → Env → AH → Prop} {c : Operand} {x y : Code} {t : Bool} (hc : aev env c = some (.bool t)) (h1 : t = true → DWp P nt x Q env H) (h2 : t = false → DWp P nt y Q env H) : DWp P nt (.cond c x y) Q env H := by
  cases t with
  | true => exact DWp.ct hc (h1 rfl)
  | false => exact DWp.cf hc (h2 rfl)

def u8s (xs : List Int) : List Value := xs.map (.int .u8)
section
variable {α : Type} {f : α → Value} {xs ys : List α} {P : Program} {G G1 H : AH} {B : Nat → Prop} {N : Nat} {l : List Item} {u v s : Value} {cs cells new : List Value} {t t2 e : TypeId} {k : Nat} {q : EInfo} {i : Int} {kk : IntKind}
theorem lenG (h : Sl G v (xs.map f)) (he : elemT P t = some e) : aLen P G t v = some (.int .i64 (llen xs)) := by simpa [llen] using h.len he
theorem idxG (h : Sl G v (xs.map f)) (he : elemT P t = some e) (hs : sizeT P e = some 1) (hi : inL xs i) : aIndexAddr P G t v (.int kk i) = some (elP v i.toNat) := by
  have := h.idx (P := P) he hs (k := i.toNat) (by unfold inL at hi; simp; omega) (kk := kk)
  rwa [Int.toNat_of_nonneg hi.1] at this
theorem loadG (h : Sl G v (xs.map f)) (hs : sizeT P e = some 1) (hb : aggT P e = some false) (hi : inL xs i) (d : α) : aLoad P G e (elP v i.toNat) = some (f (gat d xs i)) := by
  refine h.load hs hb ?_
  rw [gat_eq]
  have : i.toNat < xs.length := by unfold inL at hi; omega
  simp [List.getD_eq_getElem?_getD, List.getElem?_eq_getElem this]
theorem Sep.make (h : Sep G B l) (hN : Up B G.length) (he : elemT P t = some e) (hq : einfo P e = some q) (hq1 : q.size = 1) (d : α) (hd : q.zero.cells.getD 0 default = f d) (hi : 0 ≤ i ∧ i ≤ 4294967296) :
    ∃ v G', aMake P G t (.int .i64 i) (.int .i64 i) = some (v, G') ∧ Sep G' B (l ++ [flat v e ((lrep i d).map f)]) ∧ Agree G.length G G' ∧ isTup v = false := by
  have hm : aMake P G t (.int .i64 i) (.int .i64 i) = some (.slice (some ⟨G.length, 0, some 0⟩) i.toNat i.toNat, G ++ [⟨List.replicate i.toNat (q.zero.cells.getD 0 default), e, 1, 0, false⟩]) := by
    simp only [aMake, he, hq, hq1, hi.1, hi.2, and_self, if_true, aNew]
  refine ⟨_, _, hm, ?_, Agree.app _ _, rfl⟩
  have := h.lit hN e ((List.replicate i.toNat d).map f) i.toNat
  have w := this.weak (k := l.length) (by simp; rfl)
  simp only [List.length_map, List.length_replicate] at w
  rw [List.set_append_right _ _ (Nat.le_refl _), Nat.sub_self, List.set_cons_zero] at w
  rw [hd]
  unfold lrep
  simpa [List.map_replicate] using w
theorem Sep.lit0 (h : Sep G B l) (hN : Up B G.length) (he : elemT P t = some e) (hq : einfo P e = some q) (hq1 : q.size = 1) :
    ∃ v G', aBuildSlice P G t 0 [] = some (v, G') ∧ Sep G' B (l ++ [flat1 v e []]) ∧ Agree G.length G G' ∧ isTup v = false ∧ v.cells = #[v] :=
  ⟨_, _, aBuild_none he hq hq1, h.lit hN e [] 0, Agree.app _ _, rfl, rfl⟩
theorem Sep.lit1 (h : Sep G B l) (hN : Up B G.length) (he : elemT P t = some e) (hq : einfo P e = some q) (hq1 : q.size = 1) (x : Value) (hx : isTup x = false) (hc : x.cells = #[x]) :
    ∃ v G', aBuildSlice P G t 1 [(0, x)] = some (v, G') ∧ Sep G' B (l ++ [flat1 v e [x]]) ∧ Agree G.length G G' ∧ isTup v = false ∧ v.cells = #[v] :=
  ⟨_, _, aBuild_one he hq hq1 hx hc, h.lit hN e [x] 1, Agree.app _ _, rfl, rfl⟩
theorem aBuild_two {x y : Value} (he : elemT P t = some e) (hq : einfo P e = some q) (hq1 : q.size = 1) (hx : isTup x = false) (hc : x.cells = #[x]) (hy : isTup y = false) (hcy : y.cells = #[y]) :
    aBuildSlice P G t 2 [(0, x), (1, y)] = some (.slice (some ⟨G.length, 0, some 0⟩) 2 2, G ++ [⟨[x, y], e, 1, 0, false⟩]) := by
  obtain ⟨qs, qb, qz⟩ := q
  simp only at hq1
  subst hq1
  have hn : noTup [(0, x), (1, y)] = true := by
    unfold noTup
    simp [hx, hy]
  simp [aBuildSlice, he, hq, hn, fillL, zeros, hc, hcy, aNew, List.range_succ]
theorem Sep.lit2 (h : Sep G B l) (hN : Up B G.length) (he : elemT P t = some e) (hq : einfo P e = some q) (hq1 : q.size = 1) (x y : Value) (hx : isTup x = false) (hc : x.cells = #[x]) (hy : isTup y = false) (hcy : y.cells = #[y]) :
    ∃ v G', aBuildSlice P G t 2 [(0, x), (1, y)] = some (v, G') ∧ Sep G' B (l ++ [flat1 v e [x, y]]) ∧ Agree G.length G G' ∧ isTup v = false ∧ v.cells = #[v] :=
  ⟨_, _, aBuild_two he hq hq1 hx hc hy hcy, h.lit hN e [x, y] 2, Agree.app _ _, rfl, rfl⟩
theorem Sep.appendG (h : Sep G B l) (hk : l[k]? = some (flat u e (xs.map f))) (hN : Up B G.length) (he : elemT P t = some e) (he2 : elemT P t2 = some e) (hq : einfo P e = some q) (hq1 : q.size = 1) (hs : Sl G s (ys.map f)) (hb : xs.length + ys.length ≤ 4294967296) :
    ∃ v' G', aAppend P G t t2 u s = some (v', G') ∧ Sep G' B (l.set k (flat v' e ((lapp xs ys).map f))) ∧ AgB B G G' ∧ isTup v' = false ∧ v'.cells = #[v'] := by
  obtain ⟨v', G', a, b, c, d, g⟩ := h.append hk hN he he2 hq hq1 hs (by simpa using hb)
  have hk' : (l.set k (flat v' e (xs.map f ++ ys.map f)))[k]? = some (flat v' e (xs.map f ++ ys.map f)) := List.getElem?_set_self (List.getElem?_eq_some_iff.1 hk).1
  exact ⟨v', G', a, by unfold lapp; simpa using b, c, g, (b.sl hk').one⟩
theorem Sep.append1 (h : Sep G B l) (hk : l[k]? = some (flat1 u e (xs.map f))) (hN : Up B G.length) (he : elemT P t = some e) (he2 : elemT P t2 = some e) (hq : einfo P e = some q) (hq1 : q.size = 1) (hs : Sl G s (ys.map f)) (hb : xs.length + ys.length ≤ 4294967296) :
    ∃ v' G', aAppend P G t t2 u s = some (v', G') ∧ Sep G' B (l.set k (flat v' e ((lapp xs ys).map f))) ∧ AgB B G G' ∧ isTup v' = false ∧ v'.cells = #[v'] := by
  have hkl := (List.getElem?_eq_some_iff.1 hk).1
  obtain ⟨v', G', a, b, c⟩ := (h.weak hk).appendG (u := u) (xs := xs) (f := f) (List.getElem?_set_self hkl) hN he he2 hq hq1 hs hb
  exact ⟨v', G', a, by simpa using b, c⟩
theorem Sep.storeG (h : Sep G B l) (hk : l[k]? = some (flat u e (xs.map f))) (hN : Up B G.length) (hs : sizeT P e = some 1) {x : α} (hi : inL xs i) (hx : isTup (f x) = false) (hc : (f x).cells = #[f x]) :
    ∃ G', aStore P G e (elP u i.toNat) (f x) = some G' ∧ Sep G' B (l.set k (flat u e ((lset xs i x).map f))) ∧ AgB B G G' := by
  obtain ⟨G', a, b, c, d⟩ := h.store (P := P) hk hN hs (j := i.toNat) (x := f x) (by unfold inL at hi; simp; omega) hx hc
  exact ⟨G', a, by unfold lset; simpa [List.map_set] using b, c⟩
def subV (v : Value) (a b : Int) : Value := match v with
  | .slice (some ⟨i, off, some g⟩) n c => .slice (some ⟨i, off + a.toNat, some g⟩) (b.toNat - a.toNat) (if c = n ∧ b.toNat = n then b.toNat - a.toNat else b.toNat - a.toNat + 1)
  | v => v
variable {a b : Int}
theorem lsub_len (hg : subL xs a b) : (lsub xs a b).length = b.toNat - a.toNat := by
  unfold subL at hg
  unfold lsub
  simp
  omega
theorem cells_sub {o : List Value} {off : Nat} (h3 : (o.drop off).take xs.length = xs.map f) (hg : subL xs a b) : (o.drop (off + a.toNat)).take (b.toNat - a.toNat) = (lsub xs a b).map f := by
  unfold subL at hg
  unfold lsub
  rw [List.map_take, List.map_drop, ← h3, ← List.drop_drop, List.drop_take, List.take_take]
  congr 1
  omega
theorem subSl (h : Sl G v (xs.map f)) (hg : subL xs a b) : Sl G (subV v a b) ((lsub xs a b).map f) := by
  have hl := lsub_len hg
  rcases h with ⟨rfl, h0⟩ | ⟨i, off, g, c, o, rfl, h2, h3, h4, h5⟩
  · have hx : xs = [] := by simpa using h0
    subst hx
    exact .inl ⟨rfl, by simp [lsub]⟩
  · simp only [List.length_map] at h3 h4 ⊢
    refine .inr ⟨i, off + a.toNat, g, _, o, by simp only [subV, List.length_map, hl]; rfl, h2, by rw [List.length_map, hl]; exact cells_sub h3 hg, ?_, h5⟩
    unfold subL at hg
    simp only [List.length_map, hl]
    omega
theorem aSub11 (h : Sl G v (xs.map f)) (he : elemT P t = some e) (hs : sizeT P e = some 1) (hg : subL xs a b) : aSlice P G t v (some (.int .i64 a)) (some (.int .i64 b)) none = some (subV v a b) := by
  unfold subL at hg
  have ha : 0 ≤ b := by omega
  rcases h with ⟨rfl, h0⟩ | ⟨i, off, g, c, o, rfl, h2, h3, h4, h5⟩
  · have hx : xs = [] := by simpa using h0
    subst hx
    simp at hg
    have a0 : a = 0 := by omega
    have b0 : b = 0 := by omega
    subst a0 b0
    simp [aSlice, he, hs, idxV, subV]
  · have hab : a.toNat ≤ b.toNat := by omega
    have hbx : b.toNat ≤ xs.length := by omega
    simp [aSlice, h2, he, hs, idxV, hg.1, ha, h5, hab, hbx, subV]
theorem aSub10 (h : Sl G v (xs.map f)) (he : elemT P t = some e) (hs : sizeT P e = some 1) (hg : subL xs a (llen xs)) : aSlice P G t v (some (.int .i64 a)) none none = some (subV v a (llen xs)) := by
  unfold subL llen at hg
  rcases h with ⟨rfl, h0⟩ | ⟨i, off, g, c, o, rfl, h2, h3, h4, h5⟩
  · have hx : xs = [] := by simpa using h0
    subst hx
    simp at hg
    have a0 : a = 0 := by omega
    subst a0
    simp [aSlice, he, hs, idxV, subV]
  · have hab : a.toNat ≤ xs.length := by omega
    simp [aSlice, h2, he, hs, idxV, hg.1, h5, hab, subV, llen]
theorem aSub01 (h : Sl G v (xs.map f)) (he : elemT P t = some e) (hs : sizeT P e = some 1) (hg : subL xs 0 b) : aSlice P G t v none (some (.int .i64 b)) none = some (subV v 0 b) := by
  have := aSub11 h he hs hg
  unfold subL at hg
  rcases h with ⟨rfl, h0⟩ | ⟨i, off, g, c, o, rfl, h2, h3, h4, h5⟩
  · have hx : xs = [] := by simpa using h0
    subst hx
    simp at hg
    have b0 : b = 0 := by omega
    subst b0
    simp [aSlice, he, hs, idxV, subV]
  · have hbx : b.toNat ≤ xs.length := by omega
    simp [aSlice, h2, he, hs, idxV, hg.2.1, h5, hbx, subV]
theorem subOwn (h : Own G N e u (xs.map f)) (hg : subL xs a b) : Own G N e (subV u a b) ((lsub xs a b).map f) ∧ idOf (subV u a b) = idOf u := by
  have hl := lsub_len hg
  rcases h with ⟨rfl, h0⟩ | ⟨i, off, g, c, o, h0, rfl, h1, h2, h3, h4, h5, h6, h7⟩
  · have hx : xs = [] := by simpa using h0
    subst hx
    exact ⟨.inl ⟨rfl, by simp [lsub]⟩, rfl⟩
  · simp only [List.length_map] at h6 h7 ⊢
    refine ⟨.inr ⟨i, off + a.toNat, g, _, o, h0, by simp only [subV, List.length_map, hl]; rfl, h1, h2, h3, h4, h5, ?_, by rw [List.length_map, hl]; exact cells_sub h7 hg⟩, rfl⟩
    unfold subL at hg
    simp only [List.length_map, hl]
    omega
theorem Sep.resub (h : Sep G B l) (hk : l[k]? = some (flat u e (xs.map f))) (hg : subL xs a b) : Sep G B (l.set k (flat (subV u a b) e ((lsub xs a b).map f))) := h.turn hk fun F ⟨p, q⟩ => by
  obtain ⟨o, hi⟩ := subOwn p hg
  exact ⟨F, ⟨o, by rw [q]; unfold ids; rw [hi]⟩, fun _ h => h⟩
end
def fldT (P : Program) (s : TypeId) (f : Nat) : Option Nat := match P.underlying s with
  | some (.struct fields) => match fields[f]? with
    | some fl => match sizeT P fl.type with
      | some (_ + 1) => some fl.offset
      | _ => none
    | none => none
  | _ => none
section
variable {P : Program} {G G1 H : AH} {B : Nat → Prop} {N : Nat} {l : List Item} {p x y v z : Value} {cells : List Value} {t e : TypeId} {k off n f : Nat}
theorem Sep.fieldT (h : Sep G B l) (hk : l[k]? = some (AL.box p cells)) (hf : fldT P t f = some off) : aFieldAddr P G t p f = some (fldP p off) := by
  obtain ⟨i, ⟨rfl, o, h1, h2, _⟩, _⟩ := h.boxAt hk
  have ha : alive G i 0 = some o := by simp [alive, h1, h2]
  unfold fldT at hf
  unfold aFieldAddr ptrAt
  simp only [ha]
  split at hf
  · rename_i fields hu
    simp only [hu]
    split at hf
    · rename_i fl hfl
      simp only [hfl]
      split at hf
      · rename_i n hn
        cases hf
        simp only [hn]
        simp [fldP]
      · cases hf
    · cases hf
  · cases hf
theorem Sep.loadAgg (h : Sep G B l) (hk : l[k]? = some (AL.box p cells)) (hs : sizeT P e = some n) (hb : aggT P e = some true) (hn : cells.length = n) : aLoad P G e p = some (.agg cells.toArray) := by
  obtain ⟨i, hi, _⟩ := h.boxAt hk
  exact hi.agg hs hb hn
theorem Sep.load0 (h : Sep G B l) (hk : l[k]? = some (AL.box p [v])) (hs : sizeT P e = some 1) (hb : aggT P e = some false) : aLoad P G e p = some v := by
  obtain ⟨i, hi, _⟩ := h.boxAt hk
  exact hi.load0 hs hb
theorem Sep.loadF (h : Sep G B l) (hk : l[k]? = some (AL.box p cells)) (hs : sizeT P e = some 1) (hb : aggT P e = some false) (hv : cells[off]? = some v) : aLoad P G e (fldP p off) = some v := by
  obtain ⟨i, hi, _⟩ := h.boxAt hk
  exact hi.load hs hb hv
theorem Sep.boxT (h : Sep G B l) (hN : Up B G.length) (e : TypeId) (cells : List Value) : ∃ G' p, aNew G cells e 1 = G' ∧ ptrAt G.length 0 0 = p ∧ Agree G.length G G' ∧ Sep G' B (l ++ [AL.box p cells]) := ⟨_, _, rfl, rfl, Agree.app _ _, h.box hN e cells⟩
theorem Sep.allocT (h : Sep G B l) (hN : Up B G.length) (hz : zeroT P t = some z) (hc : constV z = true) : ∃ G' p, aAlloc P G t = some G' ∧ ptrAt G.length 0 0 = p ∧ Agree G.length G G' ∧ Sep G' B (l ++ [AL.box p z.cells.toList]) :=
  ⟨_, _, by simp only [aAlloc, hz, hc, if_true]; rfl, rfl, Agree.app _ _, h.box hN t _⟩
theorem Sep.putF (h : Sep G B l) (hk : l[k]? = some (AL.box p cells)) (hN : Up B G.length) (hs : sizeT P e = some 1) (ho : off < cells.length) (hx : isTup x = false) (hc : x.cells = #[x]) :
    ∃ G', aStore P G e (fldP p off) x = some G' ∧ Sep G' B (l.set k (AL.box p (cells.set off x))) ∧ AgB B G G' := by
  obtain ⟨G', a, b, c, _⟩ := h.put hk hN hs ho hx hc
  exact ⟨G', a, b, c⟩
theorem fldP_zero (h : Sep G B l) (hk : l[k]? = some (AL.box p cells)) : fldP p 0 = p := by
  obtain ⟨i, ⟨rfl, _⟩, _⟩ := h.boxAt hk
  rfl
theorem Sep.put0 (h : Sep G B l) (hk : l[k]? = some (AL.box p [v])) (hN : Up B G.length) (hs : sizeT P e = some 1) (hx : isTup x = false) (hc : x.cells = #[x]) :
    ∃ G', aStore P G e p x = some G' ∧ Sep G' B (l.set k (AL.box p [x])) ∧ AgB B G G' := by
  have := h.putF (P := P) (e := e) (off := 0) (x := x) hk hN hs (by simp) hx hc
  rwa [fldP_zero h hk] at this
theorem Sep.putAgg {xs : List Value} (h : Sep G B l) (hk : l[k]? = some (AL.box p cells)) (hN : Up B G.length) (hs : sizeT P e = some n) (hx : xs.length = n) (hn : cells.length = n) :
    ∃ G', aStore P G e p (.agg xs.toArray) = some G' ∧ Sep G' B (l.set k (AL.box p xs)) ∧ AgB B G G' := by
  obtain ⟨i, ⟨rfl, o, h1, h2, rfl, h3⟩, hi, hil⟩ := h.boxAt hk
  have hal : alive G i 0 = some o := by simp [alive, h1, h2]
  have hst : aStore P G e (ptrAt i 0 0) (.agg xs.toArray) = some (G.set i { o with cells := xs }) := by
    simp only [ptrAt, aStore, hal, hs]
    have hcs : (Value.agg xs.toArray).cells = xs.toArray := rfl
    rw [hcs, if_pos ⟨h3.1, rfl, by simpa using hx, by omega⟩]
    simp [List.drop_of_length_le (Nat.le_of_eq hn)]
  obtain ⟨G', r, s1, s2, s3⟩ := h.step (it' := AL.box (ptrAt i 0 0) xs) hk hN (fun G' => G' = G.set i { o with cells := xs }) fun F ⟨j, hj, pF⟩ hF => by
    have hij : j = i := by
      have := hj.1
      simp [ptrAt] at this
      exact this.symm
    subst hij
    refine ⟨_, [j], rfl, ⟨j, ⟨rfl, _, List.getElem?_set_self hil, h2, rfl, h3⟩, rfl⟩, fun m hm => .inl (by rw [pF]; exact hm), by simp, fun m hm hne => List.getElem?_set_ne fun e => hne (by rw [pF]; simp [e])⟩
  subst r
  exact ⟨_, hst, s1, s2⟩
theorem buildT3 {w : Value} (hp : placeT P t = some (z, fun i => [(0, 1), (1, 1), (2, 1)].toArray[i]?)) (hz : constV z = true) (hl : z.cells.toList.length = 3) (hx : isTup x = false) (hc : x.cells = #[x]) (hy : isTup y = false) (hcy : y.cells = #[y]) (hw : isTup w = false) (hcw : w.cells = #[w]) : aBuild P t [(0, x), (1, y), (2, w)] = some (.agg #[x, y, w]) := by
  have hn : noTup [(0, x), (1, y), (2, w)] = true := by
    unfold noTup
    simpa using ⟨hx, hy, hw⟩
  unfold aBuild
  rw [hp]
  simp only [hz, hn, and_self, if_true]
  match hzc : z.cells.toList, hl with
  | [z0, z1, z2], _ => simp [fillL, hc, hcy, hcw]
theorem c_int {s d : TypeId} {k k' k2 : IntKind} {n : Int} (hs : P.underlying s = some (.int k)) (hd : P.underlying d = some (.int k')) : aConvert P H s d (.int k2 n) = some (.int k' (iwr k' n)) := by simp [aConvert, hs, hd, iwr, wrF_eq]
end
end Go.Proofs.Ytdbflchpbhkanaa.AL
namespace Go.Proofs.Ytdbflchpbhkanaa.AL
open Go Go.RowKit
attribute [local simp] aBin' aBin aBinI aUn aNil flatV
set_option linter.unusedVariables false
set_option linter.unusedSimpArgs false

def nilV : Value := .slice none 0 0
structure RowsF (G : AH) (eo ei : TypeId) (u : Value) (C : List Value) (F : List (List Value)) : Prop where
  out : Own G 0 eo u C
  len : C.length = F.length
  row : ∀ (k : Nat) (c : Value) (xs : List Value), C[k]? = some c → F[k]? = some xs → Own G 0 ei c xs
  apart : ∀ (j k : Nat) (c d : Value) (i : Nat), j < k → C[j]? = some c → C[k]? = some d → idOf c = some i → idOf d ≠ some i
  inner : ∀ c ∈ C, ∀ i, idOf c = some i → idOf u ≠ some i
theorem RowsF.at {G G' : AH} {eo ei : TypeId} {u : Value} {C : List Value} {F : List (List Value)} (h : RowsF G eo ei u C F) (a : ∀ i, i ∈ ids u ++ C.flatMap ids → G'[i]? = G[i]?) : RowsF G' eo ei u C F where
  out := h.out.at fun i hi => a i (List.mem_append_left _ (mem_ids.2 hi))
  len := h.len
  row := fun k c xs hc hx => (h.row k c xs hc hx).at fun i hi => a i (List.mem_append_right _ (List.mem_flatMap.2 ⟨c, List.mem_of_getElem? hc, mem_ids.2 hi⟩))
  apart := h.apart
  inner := h.inner
def rowsC (u : Value) (eo ei : TypeId) (C : List Value) (F : List (List Value)) : Item := ⟨fun G A => RowsF G eo ei u C F ∧ A = ids u ++ C.flatMap ids, fun G G' A h ⟨a, b⟩ => by
  subst b
  exact ⟨a.at h, rfl⟩⟩
section
variable {β : Type} {fr : β → List Value} {X : List β} {y : β} {P : Program} {G G1 H : AH} {B : Nat → Prop} {l : List Item} {u v c s : Value} {C cells new : List Value} {F : List (List Value)} {t t2 e eo ei : TypeId} {j k i : Nat} {q : EInfo} {n : Int} {kk : IntKind}
theorem Sep.rowsF (h : Sep G B l) (hk : l[k]? = some (rowsC u eo ei C F)) : RowsF G eo ei u C F := by
  obtain ⟨A, h1, _⟩ := h.get hk
  exact h1.1
theorem gat_get {α : Type} {d : α} {xs : List α} {n : Int} (h : inL xs n) : xs[n.toNat]? = some (gat d xs n) := by
  unfold inL at h
  have : n.toNat < xs.length := by omega
  simp [gat_eq, List.getD_eq_getElem?_getD, this]
structure RdC (G : AH) (v : Value) (C : List Value) (F : List (List Value)) : Prop where
  out : Sl G v C
  len : C.length = F.length
  row : ∀ (k : Nat) (c : Value) (xs : List Value), C[k]? = some c → F[k]? = some xs → Sl G c xs
theorem RdC.agree (h : RdC G v C F) (a : Agree G.length G G1) : RdC G1 v C F := ⟨h.out.agree a, h.len, fun k c xs hc hx => (h.row k c xs hc hx).agree a⟩
theorem SlSl.rd (h : SlSl G v F) : ∃ C, RdC G v C F := by
  obtain ⟨C, a, b, c⟩ := h
  exact ⟨C, a, b, c⟩
theorem RowsF.rd (h : RowsF G eo ei u C F) : RdC G u C F := ⟨h.out.sl, h.len, fun k c xs hc hx => (h.row k c xs hc hx).sl⟩
theorem Sep.rd (h : Sep G B l) (hk : l[k]? = some (rowsC u eo ei C F)) : RdC G u C F := (h.rowsF hk).rd
theorem RdC.lenG (h : RdC G v C (X.map fr)) (he : elemT P t = some e) : aLen P G t v = some (.int .i64 (llen X)) := by
  have := h.out.len (P := P) he
  rw [h.len] at this
  simpa [llen] using this
theorem RdC.inC (h : RdC G v C (X.map fr)) (hi : inL X n) : inL C n := by
  have := h.len
  unfold inL at hi ⊢
  simp at this
  omega
theorem RdC.idxG (h : RdC G v C (X.map fr)) (he : elemT P t = some e) (hs : sizeT P e = some 1) (hi : inL X n) : aIndexAddr P G t v (.int kk n) = some (elP v n.toNat) := by
  have h2 := h.inC hi
  unfold inL at h2
  have := h.out.idx (P := P) he hs (k := n.toNat) (by omega) (kk := kk)
  rwa [Int.toNat_of_nonneg h2.1] at this
theorem RdC.loadG (h : RdC G v C (X.map fr)) (hs : sizeT P e = some 1) (hb : aggT P e = some false) (hi : inL X n) : aLoad P G e (elP v n.toNat) = some (gat nilV C n) :=
  h.out.load hs hb (gat_get (h.inC hi))
theorem RdC.rowAt (h : RdC G v C (X.map fr)) (d : β) (hi : inL X n) : Sl G (gat nilV C n) (fr (gat d X n)) := by
  refine h.row n.toNat _ _ (gat_get (h.inC hi)) ?_
  rw [List.getElem?_map, gat_get (d := d) hi]
  rfl
theorem RdC.tup (h : RdC G v C F) : isTup v = false := h.out.tup
theorem RdC.one (h : RdC G v C F) : v.cells = #[v] := h.out.one
end
def Bx (G : AH) (p : Value) (cells : List Value) : Prop := ∃ i, BoxAt G p cells i
section
variable {P : Program} {G G1 : AH} {B : Nat → Prop} {l : List Item} {p v : Value} {cells : List Value} {e : TypeId} {k : Nat}
theorem Bx.agree (h : Bx G p cells) (a : Agree G.length G G1) : Bx G1 p cells := by
  obtain ⟨i, h⟩ := h
  have hi : i < G.length := by
    obtain ⟨_, o, h1, _⟩ := h
    exact (List.getElem?_eq_some_iff.1 h1).1
  exact ⟨i, h.at (a i hi)⟩
theorem Bx.load0 (h : Bx G p [v]) (hs : sizeT P e = some 1) (hb : aggT P e = some false) : aLoad P G e p = some v := by
  obtain ⟨i, h⟩ := h
  exact h.load0 hs hb
theorem Bx.flatT (h : Bx G p cells) : flatV p = true := by
  obtain ⟨i, rfl, _⟩ := h
  rfl
theorem Bx.ptup (h : Bx G p cells) : isTup p = false := by
  obtain ⟨i, rfl, _⟩ := h
  rfl
theorem Sep.bxT (h : Sep G B l) (hk : l[k]? = some (AL.box p cells)) : Bx G p cells := by
  obtain ⟨i, h, _⟩ := h.boxAt hk
  exact ⟨i, h⟩
theorem Sep.flatT (h : Sep G B l) (hk : l[k]? = some (AL.box p cells)) : flatV p = true := (h.bxT hk).flatT
theorem Sep.ptup (h : Sep G B l) (hk : l[k]? = some (AL.box p cells)) : isTup p = false := (h.bxT hk).ptup
end
end Go.Proofs.Ytdbflchpbhkanaa.AL
namespace Go.Proofs.Ytdbflchpbhkanaa.AL
open Go Go.RowKit
attribute [local simp] aBin' aBin aBinI aUn aNil flatV
set_option linter.unusedVariables false
set_option linter.unusedSimpArgs false

theorem AgB.mono {B B' : Nat → Prop} {H G : AH} (a : AgB B' H G) (h : ∀ i, B' i → B i) : AgB B H G := ⟨a.1, fun i hi => a.2 i fun hb => hi (h i hb)⟩
theorem Sl.agr {B : Nat → Prop} {H G : AH} {v : Value} {cs : List Value} (h : Sl H v cs) (a : AgB B H G) (hd : ∀ i, idOf v = some i → ¬ B i) : Sl G v cs := h.at fun i hi => a.2 i (hd i hi)
theorem Sep.frameB {G : AH} {B : Nat → Prop} {l1 l2 : List Item} (h : Sep G B (l1 ++ l2)) (hB : Up B G.length) : ∃ B' : Nat → Prop, Sep G B' l1 ∧ Up B' G.length ∧ (∀ i, B' i → B i) ∧
    (∀ (k : Nat) (it : Item), l2[k]? = some it → ∃ F, it.P G F ∧ ∀ i ∈ F, ¬ B' i) ∧ (∀ G1 l1', AgB B' G G1 → Sep G1 B' l1' → Sep G1 B (l1' ++ l2)) ∧
    ∀ i, B' i → i < G.length → ∃ (k : Nat) (it : Item) (F : List Nat), l1[k]? = some it ∧ it.P G F ∧ i ∈ F := by
  obtain ⟨F, h1, h2⟩ := h
  have g1 : ∀ (k : Nat) (it : Item), l1[k]? = some it → it.P G (F k) ∧ ∀ i ∈ F k, B i ∧ i < G.length := fun k it hk => h1 k it (by
    rw [List.getElem?_append_left (List.getElem?_eq_some_iff.1 hk).1]; exact hk)
  have g2 : ∀ (k : Nat) (it : Item), l2[k]? = some it → it.P G (F (l1.length + k)) ∧ ∀ i ∈ F (l1.length + k), B i ∧ i < G.length := fun k it hk => h1 (l1.length + k) it (by
    rw [List.getElem?_append_right (by omega), Nat.add_sub_cancel_left]; exact hk)
  have hn : ∀ k, k < l2.length → ∀ i ∈ F (l1.length + k), ¬ ((∃ j, j < l1.length ∧ i ∈ F j) ∨ G.length ≤ i) := fun k hk i hi hb => by
    rcases hb with ⟨j, hj, hm⟩ | hb
    · exact h2 j (l1.length + k) (by simp; omega) (by simp; omega) (by omega) i hm hi
    · have := (g2 k _ (List.getElem?_eq_getElem hk)).2 i hi
      omega
  refine ⟨fun i => (∃ k, k < l1.length ∧ i ∈ F k) ∨ G.length ≤ i, ⟨F, fun k it hk => ⟨(g1 k it hk).1, fun i hi => ⟨.inl ⟨k, (List.getElem?_eq_some_iff.1 hk).1, hi⟩, ((g1 k it hk).2 i hi).2⟩⟩, fun j k hj hk => h2 j k (by simp; omega) (by simp; omega)⟩, fun i hi => .inr hi, ?_, ?_, ?_, ?_⟩
  · rintro i (⟨k, hk, hi⟩ | hi)
    · exact ((g1 k _ (List.getElem?_eq_getElem hk)).2 i hi).1
    · exact hB i hi
  · exact fun k it hk => ⟨_, (g2 k it hk).1, hn k (List.getElem?_eq_some_iff.1 hk).1⟩
  · intro G1 l1' a ⟨F', k1, k2⟩
    refine ⟨fun j => if j < l1'.length then F' j else F (l1.length + (j - l1'.length)), fun j it hj => ?_, fun p q hp hq hpq i hi => ?_⟩
    · by_cases e : j < l1'.length
      · rw [List.getElem?_append_left e] at hj
        simp only [e, if_true]
        obtain ⟨s1, s2⟩ := k1 j it hj
        refine ⟨s1, fun i hi => ⟨?_, (s2 i hi).2⟩⟩
        rcases (s2 i hi).1 with ⟨m, hm, hi'⟩ | hi'
        · exact ((g1 m _ (List.getElem?_eq_getElem hm)).2 i hi').1
        · exact hB i hi'
      · rw [List.getElem?_append_right (by omega)] at hj
        simp only [e, if_false]
        obtain ⟨s1, s2⟩ := g2 _ it hj
        have hlt := (List.getElem?_eq_some_iff.1 hj).1
        refine ⟨it.loc G G1 _ (fun i hi => a.2 i (hn _ hlt i hi)) s1, fun i hi => ?_⟩
        have h3 := s2 i hi
        exact ⟨h3.1, Nat.lt_of_lt_of_le h3.2 a.1⟩
    · rw [List.length_append] at hp hq
      have key : ∀ p q, p < l1'.length → ¬ q < l1'.length → q < l1'.length + l2.length → ∀ i ∈ F' p, i ∉ F (l1.length + (q - l1'.length)) := fun p q hp hq hq2 i hi hm =>
        hn (q - l1'.length) (by omega) i hm ((k1 p _ (List.getElem?_eq_getElem hp)).2 i hi).1
      by_cases ep : p < l1'.length
      · by_cases eq : q < l1'.length
        · simp only [ep, eq, if_true] at hi ⊢
          exact k2 p q ep eq hpq i hi
        · simp only [ep, eq, if_true, if_false] at hi ⊢
          exact key p q ep eq hq i hi
      · by_cases eq : q < l1'.length
        · simp only [ep, eq, if_true, if_false] at hi ⊢
          exact fun hm => key q p eq ep hp i hm hi
        · simp only [ep, eq, if_false] at hi ⊢
          exact h2 _ _ (by simp; omega) (by simp; omega) (by omega) i hi
  · rintro i (⟨k, hk, hi⟩ | hi) hlt
    · exact ⟨k, _, _, List.getElem?_eq_getElem hk, (g1 k _ (List.getElem?_eq_getElem hk)).1, hi⟩
    · omega
theorem Sep.frame {G : AH} {B : Nat → Prop} {l1 l2 : List Item} (h : Sep G B (l1 ++ l2)) (hB : Up B G.length) : ∃ B' : Nat → Prop, Sep G B' l1 ∧ Up B' G.length ∧ (∀ i, B' i → B i) ∧
    (∀ (k : Nat) (it : Item), l2[k]? = some it → ∃ F, it.P G F ∧ ∀ i ∈ F, ¬ B' i) ∧ ∀ G1 l1', AgB B' G G1 → Sep G1 B' l1' → Sep G1 B (l1' ++ l2) := by
  obtain ⟨B', a, b, c, d, e, _⟩ := h.frameB hB
  exact ⟨B', a, b, c, d, e⟩
end Go.Proofs.Ytdbflchpbhkanaa.AL
namespace Go.Proofs.Ytdbflchpbhkanaa.AL
open Go Go.RowKit
attribute [local simp] aBin' aBin aBinI aUn aNil flatV
set_option linter.unusedVariables false
set_option linter.unusedSimpArgs false

structure RowsH (G : AH) (eo ei : TypeId) (u : Value) (C : List Value) (F : List (List Value)) (m : Nat) : Prop where
  out : Own G 0 eo u C
  len : C.length = F.length
  row : ∀ (k : Nat) (c : Value) (xs : List Value), k ≠ m → C[k]? = some c → F[k]? = some xs → Own G 0 ei c xs
  apart : ∀ (j k : Nat) (c d : Value) (i : Nat), j < k → C[j]? = some c → C[k]? = some d → idOf c = some i → idOf d ≠ some i
  inner : ∀ c ∈ C, ∀ i, idOf c = some i → idOf u ≠ some i
def others (C : List Value) (m : Nat) : List Value := C.take m ++ C.drop (m + 1)
theorem mem_others {C : List Value} {m : Nat} {c : Value} : c ∈ others C m ↔ ∃ k, k ≠ m ∧ C[k]? = some c := by
  unfold others
  rw [List.mem_append]
  constructor
  · rintro (h | h)
    · obtain ⟨k, hk⟩ := List.getElem?_of_mem h
      have hlt := (List.getElem?_eq_some_iff.1 hk).1
      rw [List.getElem?_take] at hk
      simp at hlt
      rw [if_pos (by omega)] at hk
      exact ⟨k, by omega, hk⟩
    · obtain ⟨k, hk⟩ := List.getElem?_of_mem h
      rw [List.getElem?_drop] at hk
      exact ⟨m + 1 + k, by omega, hk⟩
  · rintro ⟨k, hk, hc⟩
    rcases Nat.lt_or_gt_of_ne hk with h | h
    · refine .inl (List.mem_of_getElem? (i := k) ?_)
      rw [List.getElem?_take, if_pos h, hc]
    · refine .inr (List.mem_of_getElem? (i := k - (m + 1)) ?_)
      rw [List.getElem?_drop]
      rw [show m + 1 + (k - (m + 1)) = k by omega, hc]
theorem RowsH.at {G G' : AH} {eo ei : TypeId} {u : Value} {C : List Value} {F : List (List Value)} {m : Nat} (h : RowsH G eo ei u C F m) (a : ∀ i, i ∈ ids u ++ (others C m).flatMap ids → G'[i]? = G[i]?) : RowsH G' eo ei u C F m where
  out := h.out.at fun i hi => a i (List.mem_append_left _ (mem_ids.2 hi))
  len := h.len
  row := fun k c xs hk hc hx => (h.row k c xs hk hc hx).at fun i hi => a i (List.mem_append_right _ (List.mem_flatMap.2 ⟨c, mem_others.2 ⟨k, hk, hc⟩, mem_ids.2 hi⟩))
  apart := h.apart
  inner := h.inner
section
variable {β : Type} {fr : β → List Value} {X : List β} {y : β} {P : Program} {G G1 H : AH} {B : Nat → Prop} {l l' : List Item} {u v c s : Value} {C cells new : List Value} {F : List (List Value)} {t t2 e eo ei : TypeId} {j k m : Nat} {q : EInfo} {n : Int} {kk : IntKind}
theorem Sep.split {p a b : Item} (h : Sep G B l) (hk : l[k]? = some p) (op : ∀ A, p.P G A → ∃ A1 A2, a.P G A1 ∧ b.P G A2 ∧ (∀ i ∈ A1, i ∈ A) ∧ (∀ i ∈ A2, i ∈ A) ∧ ∀ i ∈ A1, i ∉ A2) : Sep G B (l.set k a ++ [b]) := by
  obtain ⟨F, h1, h2⟩ := h
  have hkl := (List.getElem?_eq_some_iff.1 hk).1
  obtain ⟨p1, p2⟩ := h1 k p hk
  obtain ⟨A1, A2, q1, q2, q3, q4, q5⟩ := op (F k) p1
  refine ⟨fun x => if x = k then A1 else if x = l.length then A2 else F x, fun x it hx => ?_, fun x z hx hz hxz i hi => ?_⟩
  · by_cases ek : x = k
    · subst ek
      rw [List.getElem?_append_left (by simpa using hkl), List.getElem?_set_self hkl] at hx
      cases hx
      simp only [if_true]
      exact ⟨q1, fun i hi => p2 i (q3 i hi)⟩
    · by_cases el : x = l.length
      · subst el
        rw [List.getElem?_append_right (by simp)] at hx
        simp at hx
        subst hx
        simp only [ek, if_true, if_false]
        exact ⟨q2, fun i hi => p2 i (q4 i hi)⟩
      · have hlt : x < l.length := by
          have := (List.getElem?_eq_some_iff.1 hx).1
          simp at this
          omega
        rw [List.getElem?_append_left (by simpa using hlt), List.getElem?_set_ne (fun e => ek e.symm)] at hx
        simp only [ek, el, if_false]
        exact h1 x it hx
  · simp only [List.length_append, List.length_set, List.length_singleton] at hx hz
    by_cases xk : x = k
    · by_cases zk : z = k
      · omega
      · by_cases zl : z = l.length
        · simp only [xk, zk, zl, if_true, if_false] at hi ⊢
          have : ¬ l.length = k := by omega
          simp only [this, if_false]
          exact q5 i hi
        · simp only [xk, zk, zl, if_true, if_false] at hi ⊢
          exact h2 k z hkl (by omega) (fun e => zk e.symm) i (q3 i hi)
    · by_cases xl : x = l.length
      · by_cases zk : z = k
        · simp only [xk, xl, zk, if_true, if_false] at hi ⊢
          have : ¬ l.length = k := by omega
          simp only [this, if_false] at hi
          exact fun hm => q5 i hm hi
        · have zl : ¬ z = l.length := by omega
          simp only [xk, xl, zk, zl, if_true, if_false] at hi ⊢
          have : ¬ l.length = k := by omega
          simp only [this, if_false] at hi
          exact h2 k z hkl (by omega) (fun e => zk e.symm) i (q4 i hi)
      · by_cases zk : z = k
        · simp only [xk, xl, zk, if_true, if_false] at hi ⊢
          exact fun hm => h2 x k (by omega) hkl xk i hi (q3 i hm)
        · by_cases zl : z = l.length
          · simp only [xk, xl, zk, zl, if_true, if_false] at hi ⊢
            have : ¬ l.length = k := by omega
            simp only [this, if_false]
            exact fun hm => h2 x k (by omega) hkl xk i hi (q4 i hm)
          · simp only [xk, xl, zk, zl, if_false] at hi ⊢
            exact h2 x z (by omega) (by omega) hxz i hi
def full (v : Value) : Prop := ∃ a n, v = .slice a n n
theorem Sep.lit1E (h : Sep G B l) (hN : Up B G.length) (he : elemT P t = some e) (hq : einfo P e = some q) (hq1 : q.size = 1) (x : Value) (hx : isTup x = false) (hc : x.cells = #[x]) :
    ∃ v G', aBuildSlice P G t 1 [(0, x)] = some (v, G') ∧ Sep G' B (l ++ [flat1 v e [x]]) ∧ Agree G.length G G' ∧ full v :=
  ⟨_, _, aBuild_one he hq hq1 hx hc, h.lit hN e [x] 1, Agree.app _ _, _, _, rfl⟩
end
theorem cells_agg {cs : Array Value} : (Value.agg cs).cells = cs := rfl
theorem n_fn {H : AH} {f : FuncId} {cs : Array Value} : aNil H (.func (.func f) #[] cs) = .val (.func (.func f) #[] cs) H := by simp [aNil]
theorem DWp.join {P : Program} {nt : Nat} {c : Code} {env : Env} {H : AH} {N : Env → AH → Prop} {Q : Exit → Env → AH → Prop} (J : Env → AH → Prop) (h : DWp P nt c (andThen J Q) env H) (hN : ∀ env H, J env H → N env H) : DWp P nt c (andThen N Q) env H :=
  h.mono fun x e G q => by
    cases x with
    | normal => exact hN _ _ q
    | _ => exact q
theorem build0 {P : Program} {t : TypeId} {z : Value} {pl : Nat → Option (Nat × Nat)} {cs : List Value} (hp : placeT P t = some (z, pl)) (hz : constV z = true) (hl : z.cells.toList = cs) : aBuild P t [] = some (.agg cs.toArray) := by
  subst hl
  unfold aBuild
  simp only [hp]
  rw [if_pos ⟨hz, rfl⟩]
  rfl
end Go.Proofs.Ytdbflchpbhkanaa.AL
namespace Go.Proofs.Ytdbflchpbhkanaa.AL
open Go Go.RowKit
attribute [local simp] aBin' aBin aBinI aUn aNil flatV
set_option linter.unusedVariables false
theorem ACallT.forget {P : Program} {f : FuncId} {args : List Value} {H : AH} {v : Value} {Post : Value → AH → Prop} (h : ACallT P f args H Post) (hv : plainV v = true) (hp : ∀ u G, Post u G → u = v ∧ H <+: G) : ACall P f args H v H := by
  obtain ⟨u, G, c, q⟩ := h
  obtain ⟨rfl, hpre⟩ := hp u G q
  have key := ACallP.told (H1 := H) (news := []) (v := u) c.p (fun hw => by
    rw [List.append_nil]
    exact ⟨hw, R3_plain hv, Nat.le_refl _⟩) rfl (fun hw u' G' ⟨e1, e2⟩ => by
      subst e1 e2
      obtain ⟨L, rfl⟩ := hpre
      exact ⟨L, [], rfl, Canon.none H L hw, vr3_plain hv⟩)
  rwa [List.append_nil] at key
end Go.Proofs.Ytdbflchpbhkanaa.AL
namespace Go.Proofs.Ytdbflchpbhkanaa.AL
open Go Go.RowKit
attribute [local simp] aBin' aBin aBinI aUn aNil flatV
set_option linter.unusedVariables false
set_option linter.unusedSimpArgs false

def rlb (σ : List Nat) (o : Oper) : Oper := { o with after := o.after.map fun e => { e with on := σ.getD e.on e.on }, guard := o.guard.map fun g => (σ.getD g.1 g.1, g.2) }
def rlL (π σ : List Nat) (ops : List Oper) : List Oper := π.filterMap fun i => (ops[i]?).map (rlb σ)
structure OkP (n : Nat) (π σ : List Nat) : Prop where
  lp : π.length = n
  ls : σ.length = n
  ps : ∀ i, i < n → ∃ p, σ[i]? = some p ∧ π[p]? = some i
  sp : ∀ p, p < n → ∃ i, π[p]? = some i ∧ i < n ∧ σ[i]? = some p
def okP (n : Nat) (π σ : List Nat) : Bool := π.length == n && σ.length == n && (List.range n).all (fun i => match σ[i]? with
  | some p => π[p]? == some i
  | none => false) && (List.range n).all (fun p => match π[p]? with
  | some i => decide (i < n) && σ[i]? == some p
  | none => false)
theorem okP_spec {n : Nat} {π σ : List Nat} (h : okP n π σ = true) : OkP n π σ := by
  unfold okP at h
  simp only [Bool.and_eq_true, beq_iff_eq] at h
  obtain ⟨⟨⟨h1, h2⟩, h3⟩, h4⟩ := h
  refine ⟨h1, h2, fun i hi => ?_, fun p hp => ?_⟩
  · have := List.all_eq_true.1 h3 i (List.mem_range.2 hi)
    cases hs : σ[i]? with
    | none => rw [hs] at this; cases this
    | some p => rw [hs] at this; exact ⟨p, rfl, by simpa using this⟩
  · have := List.all_eq_true.1 h4 p (List.mem_range.2 hp)
    cases hs : π[p]? with
    | none => rw [hs] at this; cases this
    | some i =>
      rw [hs] at this
      simp only [Bool.and_eq_true, decide_eq_true_eq, beq_iff_eq] at this
      exact ⟨i, rfl, this.1, this.2⟩
theorem filterMap_get {α γ : Type} {f : α → Option γ} : ∀ (l : List α), (∀ x ∈ l, (f x).isSome = true) → (l.filterMap f).length = l.length ∧ ∀ p : Nat, (l.filterMap f)[p]? = (l[p]?).bind f
  | [], _ => ⟨rfl, fun p => by simp⟩
  | x :: l, h => by
    obtain ⟨i1, i2⟩ := filterMap_get l (fun y hy => h y (by simp [hy]))
    obtain ⟨y, hy⟩ := Option.isSome_iff_exists.1 (h x (by simp))
    rw [List.filterMap_cons, hy]
    refine ⟨by simp [i1], fun p => ?_⟩
    cases p with
    | zero => simp [hy]
    | succ p => simpa using i2 p
section
variable {P : Program} {π σ : List Nat} {ops : Array Oper}
theorem rl_get (h : OkP ops.size π σ) : (rlL π σ ops.toList).toArray.size = ops.size ∧ ∀ p : Nat, (rlL π σ ops.toList).toArray[p]? = (π[p]?).bind fun i => (ops[i]?).map (rlb σ) := by
  obtain ⟨a, b⟩ := filterMap_get (f := fun i : Nat => (ops.toList[i]?).map (rlb σ)) π (fun i hi => by
    obtain ⟨p, hp⟩ := List.getElem?_of_mem hi
    have hlt := (List.getElem?_eq_some_iff.1 hp).1
    obtain ⟨i', h1, h2, h3⟩ := h.sp p (by rw [← h.lp]; exact hlt)
    rw [hp] at h1
    cases h1
    rw [List.getElem?_eq_getElem (by simpa using h2)]
    rfl)
  refine ⟨by simpa [rlL] using a.trans h.lp, fun p => ?_⟩
  have := b p
  simpa [rlL] using this
theorem rl_at (h : OkP ops.size π σ) {i : Nat} {o : Oper} (ho : ops[i]? = some o) : ∃ p, σ[i]? = some p ∧ (rlL π σ ops.toList).toArray[p]? = some (rlb σ o) := by
  obtain ⟨p, h1, h2⟩ := h.ps i (Array.getElem?_eq_some_iff.1 ho).1
  exact ⟨p, h1, by rw [(rl_get h).2, h2]; simp [ho]⟩
theorem sg (h : OkP ops.size π σ) {i p : Nat} (hs : σ[i]? = some p) : σ.getD i i = p := by simp [List.getD_eq_getElem?_getD, hs]
theorem rl_yield (h : OkP ops.size π σ) (tmps : Array Value) (j : Nat) : yielded (rlL π σ ops.toList).toArray tmps (σ.getD j j) = yielded ops tmps j := by
  unfold yielded
  cases ho : ops[j]? with
  | none =>
    have hj : ops.size ≤ j := by simpa using ho
    have : σ[j]? = none := List.getElem?_eq_none (by rw [h.ls]; exact hj)
    have e : σ.getD j j = j := by simp [List.getD_eq_getElem?_getD, this]
    rw [e, Array.getElem?_eq_none (by rw [(rl_get h).1]; exact hj)]
  | some o =>
    obtain ⟨p, h1, h2⟩ := rl_at h ho
    rw [sg h h1, h2]
    rfl
theorem rl_wanted (h : OkP ops.size π σ) (o : Oper) (tmps : Array Value) : Region.wanted (rlb σ o) (yielded (rlL π σ ops.toList).toArray tmps) = Region.wanted o (yielded ops tmps) := by
  unfold Region.wanted rlb
  cases hg : o.guard with
  | none => rfl
  | some g =>
    obtain ⟨j, b⟩ := g
    simp only [Option.map_some]
    rw [rl_yield h]
def corr (n : Nat) (σ : List Nat) (L L' : Array Bool) : Prop := L.size = n ∧ L'.size = n ∧ ∀ i p : Nat, σ[i]? = some p → L'[p]? = L[i]?
theorem corr_set (h : OkP ops.size π σ) {L L' : Array Bool} (c : corr ops.size σ L L') {i p : Nat} (hs : σ[i]? = some p) : corr ops.size σ (L.setIfInBounds i true) (L'.setIfInBounds p true) := by
  refine ⟨by simpa using c.1, by simpa using c.2.1, fun j q hj => ?_⟩
  have hi : i < ops.size := by rw [← h.ls]; exact (List.getElem?_eq_some_iff.1 hs).1
  have hp : p < ops.size := by
    obtain ⟨p', h1, h2⟩ := h.ps i hi
    rw [hs] at h1
    cases h1
    rw [← h.lp]
    exact (List.getElem?_eq_some_iff.1 h2).1
  rw [Array.getElem?_setIfInBounds, Array.getElem?_setIfInBounds]
  by_cases e : i = j
  · subst e
    rw [hs] at hj
    cases hj
    simp [c.1, c.2.1, hi, hp]
  · have ne : ¬ p = q := by
      intro epq
      subst epq
      obtain ⟨p1, g1, g2⟩ := h.ps i hi
      rw [hs] at g1
      cases g1
      obtain ⟨p2, g3, g4⟩ := h.ps j (by rw [← h.ls]; exact (List.getElem?_eq_some_iff.1 hj).1)
      rw [hj] at g3
      cases g3
      rw [g2] at g4
      cases g4
      exact e rfl
    simp only [e, ne, if_false]
    exact c.2.2 j q hj
theorem corr_on (h : OkP ops.size π σ) {L L' : Array Bool} (c : corr ops.size σ L L') (k : Nat) (d : Bool) : L'.getD (σ.getD k k) d = L.getD k d := by
  rw [Array.getD_eq_getD_getElem?, Array.getD_eq_getD_getElem?]
  cases hs : σ[k]? with
  | none =>
    have hk : ops.size ≤ k := by rw [← h.ls]; simpa using hs
    have e : σ.getD k k = k := by simp [List.getD_eq_getElem?_getD, hs]
    rw [e, Array.getElem?_eq_none (by rw [c.2.1]; exact hk), Array.getElem?_eq_none (by rw [c.1]; exact hk)]
  | some p => rw [sg h hs, c.2.2 k p hs]
theorem rl_ready (h : OkP ops.size π σ) {L L' : Array Bool} (c : corr ops.size σ L L') {i p : Nat} (hs : σ[i]? = some p) (md : Region.Mode) : p ∈ Region.ready md (rlL π σ ops.toList).toArray L' ↔ i ∈ Region.ready md ops L := by
  have hi : i < ops.size := by rw [← h.ls]; exact (List.getElem?_eq_some_iff.1 hs).1
  have ho : ops[i]? = some ops[i] := Array.getElem?_eq_getElem hi
  obtain ⟨p', h1, h2⟩ := rl_at h ho
  rw [hs] at h1
  cases h1
  have hp : p < (rlL π σ ops.toList).toArray.size := (Array.getElem?_eq_some_iff.1 h2).1
  have hl : L'.getD p true = L.getD i true := by
    have := corr_on h c i true
    rwa [sg h hs] at this
  unfold Region.ready
  rw [List.mem_filter, List.mem_filter, List.mem_range, List.mem_range, h2, ho, hl]
  simp only [hp, hi, true_and, Option.map_some, Option.getD_some]
  have e : ((rlb σ ops[i]).after.all fun e => !Region.binds md e || L'.getD e.on false) = (ops[i].after.all fun e => !Region.binds md e || L.getD e.on false) := by
    simp only [rlb, Array.all_map]
    congr 1
    funext e
    simp only [Function.comp]
    rw [corr_on h c]
    rfl
  rw [e]
theorem rl_any (h : OkP ops.size π σ) {md : Region.Mode} {Q : Exit → Act → World → Prop} : ∀ (fuel : Nat) (L L' : Array Bool) (a : Act) (w : World), corr ops.size σ L L' → wpAny P md (rlL π σ ops.toList).toArray Q fuel L' a w → wpAny P md ops Q fuel L a w := by
  have em : ∀ {L L' : Array Bool}, corr ops.size σ L L' → (Region.ready md (rlL π σ ops.toList).toArray L' = [] ↔ Region.ready md ops L = []) := by
    intro L L' c
    constructor
    · intro e
      cases hr : Region.ready md ops L with
      | nil => rfl
      | cons i r =>
        have hi : i ∈ Region.ready md ops L := by rw [hr]; simp
        have hlt : i < ops.size := by
          unfold Region.ready at hi
          exact List.mem_range.1 (List.mem_filter.1 hi).1
        obtain ⟨p, h1, _⟩ := h.ps i hlt
        have := (rl_ready h c h1 md).2 hi
        rw [e] at this
        cases this
    · intro e
      cases hr : Region.ready md (rlL π σ ops.toList).toArray L' with
      | nil => rfl
      | cons p r =>
        have hp : p ∈ Region.ready md (rlL π σ ops.toList).toArray L' := by rw [hr]; simp
        have hlt : p < ops.size := by
          unfold Region.ready at hp
          have := List.mem_range.1 (List.mem_filter.1 hp).1
          rwa [(rl_get h).1] at this
        obtain ⟨i, h1, h2, h3⟩ := h.sp p hlt
        have := (rl_ready h c h3 md).1 hp
        rw [e] at this
        cases this
  intro fuel
  induction fuel with
  | zero => intro L L' a w c hh; exact ⟨(em c).1 hh.1, hh.2⟩
  | succ fuel ih =>
    intro L L' a w c hh
    refine ⟨fun e => hh.1 ((em c).2 e), fun i hi => ?_⟩
    have hlt : i < ops.size := by
      unfold Region.ready at hi
      exact List.mem_range.1 (List.mem_filter.1 hi).1
    have ho : ops[i]? = some ops[i] := Array.getElem?_eq_getElem hlt
    obtain ⟨p, h1, h2⟩ := rl_at h ho
    have step := hh.2 p ((rl_ready h c h1 md).2 hi)
    unfold wpOp at step ⊢
    simp only [h2] at step
    simp only [ho]
    rw [rl_wanted h] at step
    split
    · rename_i hw
      rw [if_pos hw] at step
      rcases step with step | step
      · exact .inl (Oper.wp_mono (o := ops[i]) (fun a w q => ih _ _ a w (corr_set h c h1) q) step)
      · exact .inr step
    · rename_i hw
      rw [if_neg hw] at step
      exact ih _ _ _ _ (corr_set h c h1) step
end
section
variable {P : Program} {nt : Nat} {ops : Array Oper} {B : List Nat} {k : Nat}
end
end Go.Proofs.Ytdbflchpbhkanaa.AL
namespace Go.Proofs.Ytdbflchpbhkanaa.AL
open Go Go.RowKit
attribute [local simp] aBin' aBin aBinI aUn aNil flatV
set_option linter.unusedVariables false
set_option linter.unusedSimpArgs false

def kp (K : Nat → Bool) (n : Nat) (β : BM) : BM := fun i => if K i = true ∧ i < n then β i else none
theorem kp_some {K : Nat → Bool} {n : Nat} {β : BM} {i : Nat} {l : Loc} (h : kp K n β i = some l) : (K i = true ∧ i < n) ∧ β i = some l := by
  unfold kp at h
  split at h
  · exact ⟨by assumption, h⟩
  · cases h
theorem kp_in {K : Nat → Bool} {n : Nat} {β : BM} {i : Nat} (h : K i = true) (hn : i < n) : kp K n β i = β i := by simp [kp, h, hn]
def OnlyK (K : Nat → Bool) (n : Nat) (v : Value) : Prop := ∀ β v', T3 β v v' → T3 (kp K n β) v v'
def Stand (K : Nat → Bool) (H H' : AH) : Prop := ∀ i, i < H.length → K i = true → H'[i]? = H[i]?
def PlainK (K : Nat → Bool) (H : AH) : Prop := ∀ i o, K i = true → H[i]? = some o → (o.sz = 0 → o.ro = true → False) ∧ ∀ c ∈ o.cells, plainV c = true
def MadeK (K : Nat → Bool) (H H' : AH) : Prop := ∀ i, H.length ≤ i → i < H'.length → K i = true
def OnlyKs (K : Nat → Bool) (n : Nat) (env : Env) : List Operand → Prop
  | [] => True
  | x :: r => (∀ v, aev env x = some v → OnlyK K n v) ∧ OnlyKs K n env r
theorem OnlyKs.at {K : Nat → Bool} {n : Nat} {env : Env} : ∀ {l : List Operand}, OnlyKs K n env l → ∀ x ∈ l, ∀ v, aev env x = some v → OnlyK K n v
  | [], _, x, hx => by cases hx
  | y :: l, h, x, hx => by
    rcases List.mem_cons.1 hx with rfl | hx
    · exact h.1
    · exact h.2.at x hx
def readK : Op → Bool
  | .load .. | .indexAddr .. | .fieldAddr .. | .slice .. => true
  | _ => false
def idV : Value → Option Nat
  | .pointer (some ⟨i, _, _⟩) => some i
  | .slice (some ⟨i, _, _⟩) _ _ => some i
  | _ => none
def RefK (K : Nat → Bool) (n : Nat) (v : Value) : Prop := ∀ i, idV v = some i → K i = true ∧ i < n
def RefKs (K : Nat → Bool) (n : Nat) (env : Env) : List Operand → Prop
  | [] => True
  | x :: r => (∀ v, aev env x = some v → RefK K n v) ∧ RefKs K n env r
theorem RefKs.at {K : Nat → Bool} {n : Nat} {env : Env} : ∀ {l : List Operand}, RefKs K n env l → ∀ x ∈ l, ∀ v, aev env x = some v → RefK K n v
  | [], _, x, hx => by cases hx
  | y :: l, h, x, hx => by
    rcases List.mem_cons.1 hx with rfl | hx
    · exact h.1
    · exact h.2.at x hx
theorem alive_of {H G : AH} {i g : Nat} (h : G[i]? = H[i]?) : AL.alive G i g = AL.alive H i g := by unfold AL.alive; rw [h]
theorem load_of {P : Program} {H G : AH} {t : TypeId} {p : Value} (h : ∀ i, idV p = some i → G[i]? = H[i]?) : aLoad P G t p = aLoad P H t p := by
  unfold aLoad
  split
  · rw [alive_of (h _ rfl)]
  · rfl
theorem fieldAddr_of {P : Program} {H G : AH} {t : TypeId} {p : Value} {f : Nat} (h : ∀ i, idV p = some i → G[i]? = H[i]?) : aFieldAddr P G t p f = aFieldAddr P H t p f := by
  unfold aFieldAddr
  split
  · rw [alive_of (h _ rfl)]
  · rfl
theorem indexAddr_of {P : Program} {H G : AH} {t : TypeId} {p ix : Value} (h : ∀ i, idV p = some i → G[i]? = H[i]?) : aIndexAddr P G t p ix = aIndexAddr P H t p ix := by
  unfold aIndexAddr
  split
  · rw [alive_of (h _ rfl)]
  · rw [alive_of (h _ rfl)]
  · rfl
theorem slice_of {P : Program} {H G : AH} {t : TypeId} {p : Value} {lo hi mx : Option Value} (h : ∀ i, idV p = some i → G[i]? = H[i]?) : aSlice P G t p lo hi mx = aSlice P H t p lo hi mx := by
  unfold aSlice
  split
  · rfl
  · rfl
  · rw [alive_of (h _ rfl)]
  · rw [alive_of (h _ rfl)]
  · rfl
theorem map_not_readK {op : Op} (hp : readK op = true) (h : mapK op = true) : False := by
  cases op <;> first | (simp [readK] at hp; done) | simp [mapK] at h
theorem read_any {P : Program} {env : Env} {H H' G : AH} {op : Op} {v : Value} (hp : readK op = true) (h : aop P env H op = .val v H') (hs : ∀ x ∈ op.operands.toList, ∀ u, aev env x = some u → ∀ i, idV u = some i → G[i]? = H[i]?) : H' = H ∧ aop P env G op = .val v G := by
  unfold aop at h
  split at h
  all_goals first
    | (simp [readK] at hp; done)
    | exact (map_not_readK hp (aMapOp_k h)).elim
    | skip
  all_goals simp only [aop]
  · split at h
    · rename_i hx
      obtain ⟨hq, rfl⟩ := arOf_val h
      rw [load_of (hs _ (by simp [Op.operands]) _ hx), hq]
      exact ⟨rfl, rfl⟩
    · cases h
  all_goals split at h
  · rename_i hx h1 h2 h3
    obtain ⟨hq, rfl⟩ := arOf_val h
    rw [slice_of (hs _ (by simp [Op.operands]) _ hx), hq]
    exact ⟨rfl, rfl⟩
  · cases h
  · rename_i hx
    obtain ⟨hq, rfl⟩ := arOf_val h
    rw [fieldAddr_of (hs _ (by simp [Op.operands]) _ hx), hq]
    exact ⟨rfl, rfl⟩
  · cases h
  · rename_i hx hy
    obtain ⟨hq, rfl⟩ := arOf_val h
    rw [indexAddr_of (hs _ (by simp [Op.operands]) _ hx), hq]
    exact ⟨rfl, rfl⟩
  · cases h
theorem read_not_call {P : Program} {env : Env} {H : AH} {op : Op} {f : FuncId} {args : List Value} (hp : readK op = true) (h : aop P env H op = .call f args) : False := by
  unfold aop at h
  split at h
  all_goals first
    | (simp [readK] at hp; done)
    | exact (aMapOp_call h).elim
    | ((try simp only [arOf, arOf2] at h); (repeat' (split at h)) <;> cases h)
def bsK : Op → Bool
  | .buildSlice .. => true
  | _ => false
theorem bs_made {P : Program} {env : Env} {H H' : AH} {op : Op} {v : Value} (hp : bsK op = true) (h : aop P env H op = .val v H') : ∀ i o, H.length ≤ i → H'[i]? = some o → o.ro = false := by
  unfold bsK at hp
  split at hp
  · unfold aop at h
    simp only at h
    split at h
    · unfold aBuildSlice at h
      split at h
      · split at h
        · split at h
          · unfold arOf2 at h
            split at h
            · rename_i hm
              obtain ⟨r, _, hr⟩ := Option.map_eq_some_iff.1 hm
              cases hr
              cases h
              intro i o hi ho
              unfold aNew at ho
              rw [List.getElem?_append_right hi] at ho
              have := List.mem_of_getElem? ho
              simp only [List.mem_singleton] at this
              rw [this]
            · cases h
          · cases h
        · cases h
      · cases h
    · cases h
  · cases hp
theorem bs_not_call {P : Program} {env : Env} {H : AH} {op : Op} {f : FuncId} {args : List Value} (hp : bsK op = true) (h : aop P env H op = .call f args) : False := by
  unfold bsK at hp
  split at hp
  · unfold aop at h
    simp only at h
    split at h
    · unfold arOf2 at h
      split at h <;> cases h
    · cases h
  · cases hp
def kN : Option Nat → Nat → Bool
  | some N => fun i => decide (N ≤ i)
  | none => fun _ => false
def LaxC (K : Nat → Bool) (N : Option Nat) (env : Env) (o : Oper) (H H' : AH) : Prop := (readK o.op = true ∧ RefKs K H.length env o.op.operands.toList) ∨ (bsK o.op = true ∧ OnlyKs (kN N) H.length env o.op.operands.toList ∧ PlainK (kN N) H ∧ MadeK (kN N) H H' ∧ H <+: H')
theorem Stand.rfl' {K : Nat → Bool} {H : AH} : Stand K H H := fun _ _ _ => rfl
theorem MadeK.rfl' {K : Nat → Bool} {H : AH} : MadeK K H H := fun _ _ _ => by omega
section
variable {K : Nat → Bool} {n : Nat}
theorem plain_T1 {β γ : BM} {c v : Value} (h : plainV c = true) (t : T1 β c v) : T1 γ c v := by
  cases t with
  | one t =>
    cases t with
    | plain hp => exact .one (.plain hp)
    | ptr hl hg => simp [plainV] at h
    | ptrOld hl hg => simp [plainV] at h
    | sl hl hg hn hc ha => simp [plainV] at h
    | slOld hl hg => simp [plainV] at h
    | mp => simp [plainV] at h
  | @fn f cs cs' t =>
    have : cs = [] := by
      simp only [plainV, Bool.and_eq_true, Array.isEmpty_iff] at h
      simpa using h.2
    subst this
    cases t
    exact .fn .nil
theorem OnlyK.plain {v : Value} (h : plainV v = true) : OnlyK K n v := by
  intro β v' t
  cases t with
  | one t =>
    cases t with
    | one t => exact .one (.one (plain_T1 h t))
    | agg t => simp [plainV] at h
  | tup t => simp [plainV] at h
theorem T0.kp {β : BM} {i off g : Nat} {v' : Value} (hK : K i = true) (hn : i < n) : ∀ {v : Value}, (v = .pointer (some ⟨i, off, some g⟩) ∨ ∃ m c, v = .slice (some ⟨i, off, some g⟩) m c) → T3 β v v' → T3 (AL.kp K n β) v v' := by
  rintro v (rfl | ⟨m, c, rfl⟩) t
  · cases t with
    | one t => cases t with
      | one t => cases t with
        | one t => cases t with
          | plain hp => simp [plainV] at hp
          | ptr hl hg => exact .one (.one (.one (.ptr ((kp_in hK hn).trans hl) hg)))
          | ptrOld hl hg => exact .one (.one (.one (.ptrOld ((kp_in hK hn).trans hl) hg)))
  · cases t with
    | one t => cases t with
      | one t => cases t with
        | one t => cases t with
          | plain hp => simp [plainV] at hp
          | sl hl hg hn' hc ha => exact .one (.one (.one (.sl ((kp_in hK hn).trans hl) hg hn' hc ha)))
          | slOld hl hg => exact .one (.one (.one (.slOld ((kp_in hK hn).trans hl) hg)))
end
theorem Rel.keep {K : Nat → Bool} {β : BM} {H H' : AH} {w : World} (R : Rel β H' w) (hs : ∀ i, K i = true → i < H.length → H'[i]? = H[i]?) (hp : PlainK K H) : Rel (kp K H.length β) H w where
  dom := fun i hi => by simp [kp, Nat.not_lt.2 hi]
  loc := fun i l hl => R.loc i l (kp_some hl).2
  inj := fun i j l m hl hm => R.inj i j l m (kp_some hl).2 (kp_some hm).2
  obj := fun i o l ho hl => by
    obtain ⟨⟨hK, hn⟩, hl'⟩ := kp_some hl
    obtain ⟨g1, g2, g3, g4, g5, g6⟩ := R.obj i o l ((hs i hK hn).trans ho) hl'
    refine ⟨g1, g2, g3, g4, fun j c hc => ?_, g6⟩
    obtain ⟨v, hv, t⟩ := g5 j c hc
    exact ⟨v, hv, plain_T1 ((hp i o hK ho).2 c (List.mem_of_getElem? hc)) t⟩
  hid := fun i o ho hs0 hr hg => by
    by_cases hi : K i = true ∧ i < H.length
    · have := R.hid i o ((hs i hi.1 hi.2).trans ho) hs0 hr hg
      simp [kp, this]
    · simp [kp, hi]
  mp := fun i o l ho hl hs0 hr => ((hp i o (kp_some hl).1.1 ho).1 hs0 hr).elim
theorem Rel.besideK {K : Nat → Bool} {β γ : BM} {H H1 H' : AH} {w w' : World} (R : Rel β H' w) (h1 : H <+: H1) (hl1 : H1.length ≤ H'.length) (hs : ∀ i, K i = true → i < H1.length → H'[i]? = H1[i]?) (hmade : MadeK K H H1) (hpl : PlainK K H) (hnm : ∀ i o, H.length ≤ i → H1[i]? = some o → o.ro = false) (R1 : Rel γ H1 w') (E : Ext H.length (kp K H.length β) w γ w') (hole : ∀ i, H.length ≤ i → i < H1.length → β i = none) :
    Rel (fun i => if K i = true ∧ i < H1.length then γ i else β i) H' w' ∧ (∀ N, N ≤ H.length → Ext N β w (fun i => if K i = true ∧ i < H1.length then γ i else β i) w') ∧ ∀ i l, γ i = some l → (if K i = true ∧ i < H1.length then γ i else β i) = some l := by
  have hle := h1.length_le
  have sub : ∀ i l, γ i = some l → (if K i = true ∧ i < H1.length then γ i else β i) = some l := fun q m hq => by
    have h2 : q < H1.length := by
      rcases Nat.lt_or_ge q H1.length with h | h
      · exact h
      · rw [R1.dom q h] at hq; cases hq
    have h3 : K q = true := by
      rcases Nat.lt_or_ge q H.length with h | h
      · cases hK : K q with
        | true => rfl
        | false => rw [E.hole q h (by simp [kp, hK])] at hq; cases hq
      · exact hmade q h h2
    rw [if_pos ⟨h3, h2⟩]; exact hq
  have EE : ∀ N, N ≤ H.length → Ext N β w (fun i => if K i = true ∧ i < H1.length then γ i else β i) w' := fun N hN => by
    refine ⟨E.os, E.tape, E.output, E.size, fun b hb hr => E.keep b hb fun i l hl he => hr i l (kp_some hl).2 he, fun i l hl => ?_, fun i hi hn => ?_, fun i l hl => ?_, fun i l hl hr => ?_⟩
    · by_cases hi : K i = true ∧ i < H1.length
      · simp only [if_pos hi]
        by_cases hi' : i < H.length
        · exact E.mono i l ((kp_in hi.1 hi').trans hl)
        · rw [hole i (by omega) hi.2] at hl; cases hl
      · simp only [if_neg hi]
        exact ⟨l, hl, rfl, rfl, .inl rfl⟩
    · have hi' : i < H.length := by omega
      by_cases hK : K i = true ∧ i < H1.length
      · simp only [if_pos hK]
        exact E.hole i hi' ((kp_in hK.1 hi').trans hn)
      · simp only [if_neg hK]; exact hn
    · by_cases hi : K i = true ∧ i < H1.length
      · simp only [if_pos hi] at hl
        rcases E.fresh i l hl with ⟨m, hm, e1, e2⟩ | hf
        · exact .inl ⟨m, (kp_some hm).2, e1, e2⟩
        · exact .inr hf
      · simp only [if_neg hi] at hl
        exact .inl ⟨l, hl, rfl, rfl, rfl⟩
    · by_cases hi : K i = true ∧ i < H1.length
      · simp only [if_pos hi]
        by_cases hi' : i < H.length
        · exact E.still i l ((kp_in hi.1 hi').trans hl) hr
        · rw [hole i (by omega) hi.2] at hl; cases hl
      · simp only [if_neg hi]
        exact hl
  refine ⟨⟨fun i hi => ?_, fun i l hl => ?_, ?_, fun i o l ho hl => ?_, fun i o ho hs0 hr hg => ?_, fun i o l ho hl hs0 hr => ?_⟩, EE, sub⟩
  · rw [if_neg (fun h => by omega)]
    exact R.dom i hi
  · by_cases hi : K i = true ∧ i < H1.length
    · simp only [if_pos hi] at hl; exact R1.loc i l hl
    · simp only [if_neg hi] at hl; exact Nat.lt_of_lt_of_le (R.loc i l hl) E.size
  · have mixed : ∀ i j l m, (K i = true ∧ i < H1.length) → ¬ (K j = true ∧ j < H1.length) → γ i = some l → β j = some m → l.b = m.b → (l.ro = true ∧ l.sz ≠ 0) ∧ m.ro = true ∧ m.sz ≠ 0 := by
      intro i j l m hi hj hl hm he
      rcases E.fresh i l hl with ⟨q, hq, e1, e2, e3⟩ | hf
      · have := R.inj i j q m (kp_some hq).2 hm (fun e => hj (e ▸ hi)) (e1.trans he)
        rw [e2, e3] at this
        exact this
      · have := R.loc j m hm
        omega
    intro i j l m hl hm hne he
    by_cases hi : K i = true ∧ i < H1.length <;> by_cases hj : K j = true ∧ j < H1.length
    · simp only [if_pos hi] at hl; simp only [if_pos hj] at hm; exact R1.inj i j l m hl hm hne he
    · simp only [if_pos hi] at hl; simp only [if_neg hj] at hm; exact mixed i j l m hi hj hl hm he
    · simp only [if_neg hi] at hl; simp only [if_pos hj] at hm; exact (mixed j i m l hj hi hm hl he.symm).symm
    · simp only [if_neg hi] at hl; simp only [if_neg hj] at hm; exact R.inj i j l m hl hm hne he
  · have E0 := EE 0 (Nat.zero_le _)
    by_cases hi : K i = true ∧ i < H1.length
    · simp only [if_pos hi] at hl
      rw [hs i hi.1 hi.2] at ho
      obtain ⟨g1, g2, g3, g4, g5, g6⟩ := R1.obj i o l ho hl
      refine ⟨g1, g2, g3, g4, fun j c hc => ?_, g6⟩
      obtain ⟨v, hv, t⟩ := g5 j c hc
      exact ⟨v, hv, t.sub sub⟩
    · simp only [if_neg hi] at hl
      obtain ⟨g1, g2, g3, g4, g5, g6⟩ := R.obj i o l ho hl
      have hb : w'.heap[l.b]? = w.heap[l.b]? := E.keep l.b (R.loc i l hl) fun q m hq he => (R.inj q i m l (kp_some hq).2 hl (fun e => hi (by have := (kp_some hq).1; subst e; exact ⟨this.1, by omega⟩)) he).1
      refine ⟨g1, g2, g3, g4, fun j c hc => ?_, fun hr => ?_⟩
      · obtain ⟨v, hv, t⟩ := g5 j c hc
        exact ⟨v, (World.cell?_of_block (a := ⟨l.b, l.base + j, none⟩) hb).trans hv, t.ext E0⟩
      · obtain ⟨arr, ha1, ha2⟩ := g6 hr
        exact ⟨arr, hb.trans ha1, ha2⟩
  · by_cases hi : K i = true ∧ i < H1.length
    · simp only [if_pos hi]
      rw [hs i hi.1 hi.2] at ho
      exact R1.hid i o ho hs0 hr hg
    · simp only [if_neg hi]
      exact R.hid i o ho hs0 hr hg
  · by_cases hi : K i = true ∧ i < H1.length
    · simp only [if_pos hi] at hl
      rw [hs i hi.1 hi.2] at ho
      rcases Nat.lt_or_ge i H.length with hlt | hge
      · exact ((hpl i o hi.1 (by rw [pre_back h1 hlt]; exact ho)).1 hs0 hr).elim
      · rw [hnm i o hge ho] at hr; cases hr
    · simp only [if_neg hi] at hl
      obtain ⟨j, c, m0, m1, m2, m3, m4, m5⟩ := R.mp i o l ho hl hs0 hr
      exact ⟨j, c, m0, m1, m2, m3, m4, m5.ext (EE 0 (Nat.zero_le _)) (E.keep l.b (R.loc i l hl) fun q m hq he => (R.inj q i m l (kp_some hq).2 hl (fun e => hi (by have := (kp_some hq).1; subst e; exact ⟨this.1, by omega⟩)) he).1)⟩

def chkL (ops : Array Oper) (B : List Nat) (k : Nat) (X : List Nat) : Bool := okBits ops B && (((List.range ops.size).all fun j => (List.range j).all fun i => (B.getD j 0).testBit i ||
  match ops[i]?, ops[j]? with
  | some x, some y => x.apart ops y && (quiet ops k x.op || quiet ops k y.op || decide (j < k) || (X.contains i && decide (i < k)))
  | _, _ => false) && X.all fun j => Nat.blt j k || X.all fun i => Nat.ble k i || (B.getD j 0).testBit i)
def ARunL (P : Program) (nt : Nat) (ops : Array Oper) (k : Nat) (K : Nat → Bool) (N : Option Nat) (X : List Nat) (Q : Env → AH → Prop) : Nat → List Oper → Env → AH → Prop
  | _, [], env, H => Q env H
  | i, o :: r, env, H => if okDst nt o.dst = true ∧ okGuard ops env o = true then (if Region.wanted o (ayield ops env) then AStepD P o env H (fun v H' => ((i < k → H <+: H') ∧ (k ≤ i → i ∈ X ∨ (Stand K H H' ∧ Stand (kN N) H H')) ∧ (i ∈ X → i < k → LaxC K N env o H H')) ∧ ARunL P nt ops k K N X Q (i + 1) r (aput env o.dst v) H') else ARunL P nt ops k K N X Q (i + 1) r (aput env o.dst undef) H) else False
def Step2 (P : Program) (nt : Nat) (ops : Array Oper) (k : Nat) (K : Nat → Bool) (N : Option Nat) (X : List Nat) (i : Nat) (env : Env) (H : AH) (v : Value) (H' : AH) : Prop :=
  Step1 P nt ops k i env H v H' ∧ (k ≤ i → i ∈ X ∨ (Stand K H H' ∧ Stand (kN N) H H')) ∧ ∀ o, ops[i]? = some o → i ∈ X → i < k → Region.wanted o (ayield ops env) = true → LaxC K N env o H H'
section
variable {P : Program} {nt : Nat} {ops : Array Oper} {B : List Nat} {k : Nat} {K : Nat → Bool} {N : Option Nat} {X0 : List Nat}
theorem traceL_of {Q : Env → AH → Prop} : ∀ (l : List Oper) (i0 : Nat) (env : Env) (H : AH), ops.toList.drop i0 = l → i0 + l.length = ops.size → ARunL P nt ops k K N X0 Q i0 l env H →
    ∃ (V : Nat → Value) (E : Nat → Env) (G : Nat → AH), E i0 = env ∧ G i0 = H ∧ Q (E ops.size) (G ops.size) ∧ ∀ i, i0 ≤ i → i < ops.size → E (i + 1) = aput (E i) (dstOf ops i) (V i) ∧ Step2 P nt ops k K N X0 i (E i) (G i) (V i) (G (i + 1))
  | [], i0, env, H, _, hl, h => ⟨fun _ => undef, fun _ => env, fun _ => H, rfl, rfl, h, fun i hi hlt => by simp at hl; omega⟩
  | o :: r, i0, env, H, hd, hl, h => by
    have ho : ops[i0]? = some o := by
      have : (ops.toList.drop i0)[0]? = some o := by rw [hd]; rfl
      rw [List.getElem?_drop, Nat.add_zero, Array.getElem?_toList] at this
      exact this
    have hd' : ops.toList.drop (i0 + 1) = r := by
      have := congrArg List.tail hd
      simpa [List.tail_drop] using this
    simp only [ARunL] at h
    split at h
    case isFalse => exact h.elim
    rename_i hok
    obtain ⟨v, H', hs, hrest⟩ : ∃ v H', Step2 P nt ops k K N X0 i0 env H v H' ∧ ARunL P nt ops k K N X0 Q (i0 + 1) r (aput env o.dst v) H' := by
      split at h
      · rename_i hw
        unfold AStepD at h
        split at h
        · exact ⟨_, _, ⟨⟨o, ho, hok.1, hok.2, .inl ⟨hw, .inl (by assumption), h.1.1⟩⟩, h.1.2.1, fun p hp hx hk' _ => by rw [ho] at hp; cases hp; exact h.1.2.2 hx hk'⟩, h.2⟩
        · obtain ⟨v, H', hc, h1, h2⟩ := h
          exact ⟨v, H', ⟨⟨o, ho, hok.1, hok.2, .inl ⟨hw, .inr ⟨_, _, by assumption, hc⟩, h1.1⟩⟩, h1.2.1, fun p hp hx hk' _ => by rw [ho] at hp; cases hp; exact h1.2.2 hx hk'⟩, h2⟩
        · exact h.elim
      · rename_i hw
        exact ⟨undef, H, ⟨⟨o, ho, hok.1, hok.2, .inr ⟨by simpa using hw, rfl, rfl⟩⟩, fun _ => .inr ⟨.rfl', .rfl'⟩, fun p hp hx _ hw' => by rw [ho] at hp; cases hp; exact absurd hw' hw⟩, h⟩
    obtain ⟨V, E, G, h1, h2, h3, h4⟩ := traceL_of r (i0 + 1) _ _ hd' (by simp at hl; omega) hrest
    have hsz : i0 < ops.size := by simp at hl; omega
    refine ⟨fun i => if i = i0 then v else V i, fun i => if i ≤ i0 then env else E i, fun i => if i ≤ i0 then H else G i, by simp, by simp, ?_, fun i hi hlt => ?_⟩
    · simp only [show ¬ (ops.size ≤ i0) by omega, if_false]; exact h3
    · by_cases e : i = i0
      · subst e
        simp only [Nat.le_refl, if_true, show ¬ (i + 1 ≤ i) by omega, if_false]
        rw [h1, h2]
        refine ⟨?_, hs⟩
        simp [dstOf, ho]
      · have := h4 i (by omega) hlt
        simp only [e, show ¬ (i + 1 ≤ i0) by omega, show ¬ (i ≤ i0) by omega, if_false]
        exact this
structure TraceL (P : Program) (nt : Nat) (ops : Array Oper) (k : Nat) (K : Nat → Bool) (N : Option Nat) (X0 : List Nat) (V : Nat → Value) (E : Nat → Env) (G : Nat → AH) : Prop where
  T : Trace P nt ops k V E G
  stand : ∀ i, i < ops.size → k ≤ i → i ∈ X0 ∨ (Stand K (G i) (G (i + 1)) ∧ Stand (kN N) (G i) (G (i + 1)))
  lax : ∀ i o, ops[i]? = some o → i ∈ X0 → i < k → Region.wanted o (ayield ops (E i)) = true → LaxC K N (E i) o (G i) (G (i + 1))
variable {V : Nat → Value} {E : Nat → Env} {G : Nat → AH}
theorem TraceL.stands (L : TraceL P nt ops k K N X0 V E G) : ∀ m, k ≤ m → m ≤ ops.size → (∀ j, k ≤ j → j < m → j ∈ X0 → G (j + 1) = G j) → ∀ i, i < (G k).length → (K i = true ∨ kN N i = true) → (G m)[i]? = (G k)[i]?
  | 0, h, _, _, i, hi, hK => by
    have : k = 0 := by omega
    subst this; rfl
  | m + 1, h, hm, hsm, i, hi, hK => by
    by_cases e : k = m + 1
    · subst e; rfl
    · have := L.T.lens (i := k) m (by omega) (by omega)
      have st := L.stand m (by omega) (by omega)
      have e2 : (G (m + 1))[i]? = (G m)[i]? := by
        rcases st with hx | st
        · rw [hsm m (by omega) (by omega) hx]
        · rcases hK with hK | hK
          · exact st.1 i (by omega) hK
          · exact st.2 i (by omega) hK
      rw [e2]
      exact L.stands m (by omega) (by omega) (fun j h1 h2 => hsm j h1 (by omega)) i hi hK
theorem chkL_all (h : chkL ops B k X0 = true) : chk ops B ops.size = true := by
  unfold chkL at h
  unfold chk
  rw [Bool.and_eq_true] at h ⊢
  refine ⟨h.1, List.all_eq_true.2 fun j hj => List.all_eq_true.2 fun i hi => ?_⟩
  have h2 := h.2
  rw [Bool.and_eq_true] at h2
  have h1 := List.all_eq_true.1 (List.all_eq_true.1 h2.1 j hj) i hi
  have hjs := List.mem_range.1 hj
  rw [Bool.or_eq_true] at h1 ⊢
  rcases h1 with h1 | h1
  · exact .inl h1
  · refine .inr ?_
    split at h1
    · rename_i e1 e2
      rw [Bool.and_eq_true] at h1
      simp only [e1, e2, h1.1, decide_eq_true hjs, Bool.or_true, Bool.and_true]
    · cases h1
theorem chkL_pair (h : chkL ops B k X0 = true) {i j : Nat} {x y : Oper} (hij : i < j) (hx : ops[i]? = some x) (hy : ops[j]? = some y) (hb : (B.getD j 0).testBit i = false) : quiet ops k x.op = true ∨ quiet ops k y.op = true ∨ j < k ∨ (i ∈ X0 ∧ i < k) := by
  have hj := (Array.getElem?_eq_some_iff.1 hy).1
  unfold chkL at h
  rw [Bool.and_eq_true] at h
  have h2 := h.2
  rw [Bool.and_eq_true] at h2
  have h1 := List.all_eq_true.1 (List.all_eq_true.1 h2.1 j (List.mem_range.2 hj)) i (List.mem_range.2 hij)
  simp only [hb, Bool.false_or, hx, hy, Bool.and_eq_true, Bool.or_eq_true, decide_eq_true_eq, List.contains_iff_mem] at h1
  rcases h1.2 with ((h | h) | h) | h <;> simp [h]
theorem chkL_after (h : chkL ops B k X0 = true) {i j : Nat} (hj : j ∈ X0) (hkj : k ≤ j) (hi : i ∈ X0) (hik : i < k) : (B.getD j 0).testBit i = true := by
  unfold chkL at h
  rw [Bool.and_eq_true, Bool.and_eq_true] at h
  have h1 := List.all_eq_true.1 h.2.2 j hj
  rw [Bool.or_eq_true] at h1
  rcases h1 with h1 | h1
  · have := (Nat.blt_eq ▸ h1 : j < k)
    omega
  · have h2 := List.all_eq_true.1 h1 i hi
    rw [Bool.or_eq_true] at h2
    rcases h2 with h2 | h2
    · have := (Nat.ble_eq ▸ h2 : k ≤ i)
      omega
    · exact h2
theorem agreeL (hc : chk ops B ops.size = true) (T : Trace P nt ops k V E G) {X : Nat → Bool} (closed : ∀ j o, X j = true → ops[j]? = some o → ∀ d ∈ needs o, X d = true) {i : Nat} {o : Oper} (ho : ops[i]? = some o) (hn : ∀ d ∈ needs o, X d = true) (hXi : X i = false) {t : Tmp} (ht : t ∈ o.looksAt ops) :
    fold ops V X (E 0) ops.size t = E i t := by
  have hi := (Array.getElem?_eq_some_iff.1 ho).1
  rw [← fold_all (V := V) (E := E) rfl (fun j hj => (T.step j hj).1) i (by omega), ← fold_stop (V := V) (base := E 0) ops.size (by omega)]
  refine fold_congr ops.size fun j hj hd => ?_
  have hoj : ops[j]? = some ops[j] := Array.getElem?_eq_getElem hj
  have hdj : (ops[j]).dst = some t := by simpa [dstOf, hoj] using hd
  rcases Nat.lt_trichotomy j i with h | h | h
  · rw [decide_eq_true h]
    cases hb : (B.getD i 0).testBit j with
    | true => exact waits hc closed ho hn hXi hb
    | false => exact absurd ht ((Oper.apart_spec (chk_pair hc h hoj ho hb).1).1 t hdj)
  · subst h; simp [hXi]
  · rw [decide_eq_false (by omega)]
    cases hb : (B.getD j 0).testBit i with
    | true =>
      cases hX : X j with
      | false => rfl
      | true => rw [waits_in hc closed hj hX hb] at hXi; cases hXi
    | false => exact absurd ht ((Oper.apart_spec (chk_pair hc h ho hoj hb).1).2.2 t hdj)
def PhL (ops : Array Oper) (k : Nat) (X0 : List Nat) (G : Nat → AH) (X : Nat → Bool) (β : BM) (w : World) : Prop :=
  ∃ m, k ≤ m ∧ m ≤ ops.size ∧ (∀ i o, i < m → ops[i]? = some o → quiet ops k o.op = false → (i ∈ X0 ∧ i < k) ∨ X i = true) ∧ (∀ i o, m ≤ i → X i = true → ops[i]? = some o → quiet ops k o.op = true) ∧ Rel β (G m) w ∧
    ∀ i o, i < k → ops[i]? = some o → quiet ops k o.op = false → X i = false → ∀ id, (G i).length ≤ id → id < (G (i + 1)).length → β id = none
structure InvL (nt : Nat) (ops : Array Oper) (k : Nat) (X0 : List Nat) (V : Nat → Value) (E : Nat → Env) (G : Nat → AH) (β0 : BM) (w0 : World) (X : Nat → Bool) (a : Act) (w : World) : Prop where
  closed : ∀ j o, X j = true → ops[j]? = some o → ∀ d ∈ needs o, X d = true
  bnd : ∀ j, X j = true → j < ops.size
  size : a.tmps.size = nt
  defers : a.defers = []
  core : ∃ β, EnvT β (fold ops V X (E 0) ops.size) a.tmps ∧ Ext (G 0).length β0 w0 β w ∧ (PhA ops k G X β w ∨ PhL ops k X0 G X β w)
theorem InvL.one (hcL : chkL ops B k X0 = true) (L : TraceL P nt ops k K N X0 V E G) {β0 : BM} {w0 : World} {X : Nat → Bool} {a : Act} {w : World} (I : InvL nt ops k X0 V E G β0 w0 X a w) {i : Nat} {o : Oper} (ho : ops[i]? = some o) (hn : ∀ d ∈ needs o, X d = true) (hXi : X i = false)
    {Q : Exit → Act → World → Prop} {NN : Act → World → Prop} (hN : ∀ a' w', InvL nt ops k X0 V E G β0 w0 (addX X i) a' w' → NN a' w') : wpOp P ops Q i NN a w := by
  have T := L.T
  have hc := chkL_all hcL
  have hi := (Array.getElem?_eq_some_iff.1 ho).1
  obtain ⟨β, hE, hX, hph⟩ := I.core
  obtain ⟨heq, o', ho', hd, hg, hst⟩ := T.step i hi
  rw [ho] at ho'
  cases ho'
  have hdst : dstOf ops i = o.dst := by simp [dstOf, ho]
  have hag : ∀ t ∈ o.looksAt ops, fold ops V X (E 0) ops.size t = E i t := fun t ht => agreeL hc T I.closed ho hn hXi ht
  have hlook : ∀ d ∈ o.looksAt ops, ∀ v, E i d = some v → ∃ v', a.tmps[d]? = some v' ∧ T3 β v v' := fun d hd v hv => hE d v ((hag d hd).trans hv)
  have hOp : OpT β (E i) a o.op := by
    intro x hx v hv
    cases x with
    | tmp t =>
      obtain ⟨v', h1, h2⟩ := hlook t (looks_op hx) v hv
      have : a.eval (.tmp t) = v' := by simp [Act.eval, h1]
      rw [this]; exact h2
    | const c =>
      simp only [aev] at hv
      split at hv
      · cases hv; exact .const (by assumption)
      · cases hv
    | func f => cases hv; exact .plain rfl
    | global g => cases hv
  -- the new set
  have hclosed : ∀ j p, addX X i j = true → ops[j]? = some p → ∀ d ∈ needs p, addX X i d = true := by
    intro j p hj hp d hd
    have : X d = true := by
      by_cases e : j = i
      · subst e; rw [ho] at hp; cases hp; exact hn d hd
      · rw [addX_other e] at hj; exact I.closed j p hj hp d hd
    by_cases e : d = i
    · subst e; exact addX_same
    · rw [addX_other e]; exact this
  have hbnd : ∀ j, addX X i j = true → j < ops.size := fun j hj => by
    by_cases e : j = i
    · subst e; exact hi
    · rw [addX_other e] at hj; exact I.bnd j hj
  have henv : ∀ {β' : BM} {v' : Value}, EnvT β' (fold ops V X (E 0) ops.size) a.tmps → T3 β' (V i) v' → EnvT β' (fold ops V (addX X i) (E 0) ops.size) (a.put o.dst v').tmps := by
    intro β' v' h t q v hv
    refine h.put I.size t o.dst hd q v ?_
    by_cases e : o.dst = some q
    · have h1 := fold_last (V := V) (base := E 0) (hdst.trans e) (X := addX X i) addX_same (fun j hj hdj => by
        rw [addX_other (by omega)]
        cases hXj : X j with
        | false => rfl
        | true =>
          have hjn := I.bnd j hXj
          have hoj : ops[j]? = some ops[j] := Array.getElem?_eq_getElem hjn
          have hdj' : (ops[j]).dst = some q := by simpa [dstOf, hoj] using hdj
          cases hb : (B.getD j 0).testBit i with
          | true => rw [waits_in hc I.closed hjn hXj hb] at hXi; cases hXi
          | false => exact absurd hdj' ((Oper.apart_spec (chk_pair hc hj ho hoj hb).1).2.1 q e)) ops.size hi
      rw [h1] at hv
      rw [e]
      simpa [aput] using hv
    · rw [aput_other e]
      rw [← hv]
      refine fold_congr ops.size fun j hj hdj => ?_
      rw [addX_other]
      rintro rfl
      exact e (hdst.symm.trans hdj)
  have mk : ∀ {β' : BM} {v' : Value} {w' : World}, EnvT β' (fold ops V X (E 0) ops.size) a.tmps → T3 β' (V i) v' → Ext (G 0).length β0 w0 β' w' → (PhA ops k G (addX X i) β' w' ∨ PhL ops k X0 G (addX X i) β' w') → NN (a.put o.dst v') w' :=
    fun h1 h2 h3 h4 => hN _ _ ⟨hclosed, hbnd, by rw [Act.put_size]; exact I.size, by rw [Act.put_defers]; exact I.defers, _, henv h1 h2, h3, h4⟩
  -- behind the first that writes all stand in a row, but the lax
  have nonpure_before : ∀ j p, j < i → ops[j]? = some p → quiet ops k p.op = false → quiet ops k o.op = false → k ≤ i → (j ∈ X0 ∧ j < k) ∨ X j = true := by
    intro j p hj hp hpp hpo hki
    cases hb : (B.getD i 0).testBit j with
    | true => exact .inr (waits hc I.closed ho hn hXi hb)
    | false =>
      rcases chkL_pair hcL hj hp ho hb with h | h | h | h
      · rw [hpp] at h; cases h
      · rw [hpo] at h; cases h
      · omega
      · exact .inl h
  have toB : quiet ops k o.op = false → k ≤ i → ∃ m, k ≤ m ∧ m ≤ i ∧ (∀ j p, j < m → ops[j]? = some p → quiet ops k p.op = false → (j ∈ X0 ∧ j < k) ∨ X j = true) ∧ (∀ j p, m ≤ j → X j = true → ops[j]? = some p → quiet ops k p.op = true) ∧ Rel β (G i) w ∧ (∀ j p, j < k → ops[j]? = some p → quiet ops k p.op = false → X j = false → ∀ id, (G j).length ≤ id → id < (G (j + 1)).length → β id = none) := by
    intro hpo hki
    have fin : ∀ m, k ≤ m → m ≤ i → (∀ j p, m ≤ j → X j = true → ops[j]? = some p → quiet ops k p.op = true) → Rel β (G m) w → Rel β (G i) w := by
      intro m h1 h2 h3 h4
      rw [T.same i h2 (by omega) fun q p h5 h6 h7 => ?_]
      · exact h4
      · cases hq : quiet ops k p.op with
        | true => rfl
        | false =>
          rcases nonpure_before q p h6 h7 hq hpo hki with h | h
          · omega
          · rw [← hq]; exact h3 q p h5 h h7
    rcases hph with ⟨h1, h2, h3⟩ | ⟨m, h1, h2, h3, h4, h5, h6⟩
    · have hp : ∀ j p, k ≤ j → X j = true → ops[j]? = some p → quiet ops k p.op = true := fun j p hj hx hp => by
        cases hq : quiet ops k p.op with
        | true => rfl
        | false => have := h1 j p hx hp hq; omega
      exact ⟨k, Nat.le_refl _, hki, fun j p hj hp hq => nonpure_before j p (by omega) hp hq hpo hki, hp, fin k (Nat.le_refl _) hki hp h2, h3⟩
    · have hmi : m ≤ i := by
        rcases Nat.lt_or_ge i m with h | h
        · rcases h3 i o h ho hpo with h' | h'
          · omega
          · rw [h'] at hXi; cases hXi
        · exact h
      exact ⟨m, h1, hmi, h3, h4, fin m h1 hmi h4 h5, h6⟩
  have afterB : ∀ {β' : BM} {w' : World}, quiet ops k o.op = false → k ≤ i → (∃ m, k ≤ m ∧ m ≤ i ∧ (∀ j p, j < m → ops[j]? = some p → quiet ops k p.op = false → (j ∈ X0 ∧ j < k) ∨ X j = true) ∧ (∀ j p, m ≤ j → X j = true → ops[j]? = some p → quiet ops k p.op = true)) → Rel β' (G (i + 1)) w' → (∀ id, id < (G i).length → β id = none → β' id = none) → (∀ j p, j < k → ops[j]? = some p → quiet ops k p.op = false → X j = false → ∀ id, (G j).length ≤ id → id < (G (j + 1)).length → β id = none) → PhL ops k X0 G (addX X i) β' w' := by
    rintro β' w' hpo hki ⟨m, h1, h2, h3, h4⟩ R hh h6
    refine ⟨i + 1, by omega, by omega, fun j p hj hp hq => ?_, fun j p hj hx hp => ?_, R, fun j p hj hpj hq hx id g1 g2 => ?_⟩
    · by_cases e : j = i
      · subst e; exact .inr addX_same
      · rw [addX_other e]; exact nonpure_before j p (by omega) hp hq hpo hki
    · rw [addX_other (by omega)] at hx
      exact h4 j p (by omega) hx hp
    · have hji : j ≠ i := by omega
      rw [addX_other hji] at hx
      have := T.lens (i := j + 1) i (by omega) (by omega)
      exact hh id (by omega) (h6 j p hj hpj hq hx id g1 g2)
  unfold wpOp
  simp only [ho]
  rw [ayield_at hlook hg]
  rcases hst with ⟨hw, hr, hpre⟩ | ⟨hw, hv, hG⟩
  · rw [if_pos hw]
    refine .inl ?_
    cases hp : quiet ops k o.op with
    | true =>
      obtain ⟨hq⟩ | ⟨f, args, hq, _⟩ := hr
      case inr => exact (quiet_not_call hp hq).elim
      have hq := T.quietAny hp ho (by assumption)
      have go : ∀ Hr, aop P (E i) Hr o.op = .val (V i) Hr → Rel β Hr w → (∀ β' w', Rel β' Hr w' → Ext Hr.length β w β' w' → (PhA ops k G (addX X i) β' w' ∨ PhL ops k X0 G (addX X i) β' w')) → (G 0).length ≤ Hr.length → o.wp P a w NN Q := by
        intro Hr hqr R hh hl
        obtain ⟨v', w', β', hrun, R', E', t⟩ := aop_val (P := P) R hOp hqr
        have E0 := hX.trans E' (by exact hl)
        unfold Oper.wp
        rcases hrun with hrun | ⟨hrun, rfl⟩
        · rw [hrun]; exact mk (hE.ext E') t E0 (hh β' w' R' E')
        · rw [hrun]; exact mk (hE.ext E') t E0 (hh β' w' R' E')
      rcases hph with ⟨h1, h2, h3⟩ | ⟨m, h1, h2, h3, h4, h5, h6⟩
      · refine go (G k) (hq k (Nat.le_refl _) T.hk) h2 (fun β' w' R' E' => .inl ⟨fun j p hx hpj hq => ?_, R', fun j p hj hpj hq hx id g1 g2 => ?_⟩) (T.lens k (Nat.zero_le _) T.hk)
        · by_cases e : j = i
          · subst e; rw [ho] at hpj; cases hpj; rw [hp] at hq; cases hq
          · rw [addX_other e] at hx; exact h1 j p hx hpj hq
        · have hji : j ≠ i := by rintro rfl; rw [addX_same] at hx; cases hx
          rw [addX_other hji] at hx
          have hlk := T.lens (i := j + 1) k (by omega) T.hk
          exact E'.hole id (by omega) (h3 j p hj hpj hq hx id g1 g2)
      · refine go (G m) (hq m h1 h2) h5 (fun β' w' R' E' => .inr ⟨m, h1, h2, fun j p hj hpj hq => ?_, fun j p hj hx hpj => ?_, R', fun j p hj hpj hq hx id g1 g2 => ?_⟩) (T.lens m (Nat.zero_le _) h2)
        · by_cases e : j = i
          · subst e; exact .inr addX_same
          · rw [addX_other e]; exact h3 j p hj hpj hq
        · by_cases e : j = i
          · subst e; rw [ho] at hpj; cases hpj; exact hp
          · rw [addX_other e] at hx; exact h4 j p hj hx hpj
        · have hji : j ≠ i := by rintro rfl; rw [addX_same] at hx; cases hx
          rw [addX_other hji] at hx
          have hlk := T.lens (i := j + 1) m (by omega) h2
          exact E'.hole id (by omega) (h6 j p hj hpj hq hx id g1 g2)
    | false =>
      obtain ⟨wfi, eri⟩ := T.all i (by omega)
      by_cases hki : k ≤ i
      · obtain ⟨m, h1, h2, h3, h4, R, h6⟩ := toB hp hki
        refine op_real hr R wfi eri hOp fun v' w' β' R' E' t => ?_
        exact mk (hE.ext E') t (hX.trans E' (T.lens i (Nat.zero_le _) (by omega))) (.inr (afterB hp hki ⟨m, h1, h2, h3, h4⟩ R' (fun id hid => E'.hole id hid) h6))
      · have hik : i < k := by omega
        rcases hph with ⟨h1, h2, h3⟩ | ⟨m, h1, h2, h3, h4, h5, h6⟩
        · have hpk := T.pre k (i := i) (by omega) (Nat.le_refl _)
          have hpk1 := T.pre k (i := i + 1) (by omega) (Nat.le_refl _)
          have hOp' : OpT (cut (G i).length β) (E i) a o.op := fun x hx v hv => (hOp x hx v hv).cut (aev_R eri hv)
          refine op_real hr (h2.less hpk wfi) wfi eri hOp' fun v' w' γ R1 E1 t => ?_
          obtain ⟨R', EE⟩ := h2.beside (hpre hik) hpk1 R1 E1 (h3 i o hik ho hp hXi)
          have E' := EE (G 0).length (T.lens i (Nat.zero_le _) (by omega))
          refine mk (hE.ext E') (t.sub fun q l hq => ?_) (hX.trans E' (Nat.le_refl _)) (.inl ⟨fun j p hx hpj hq => ?_, R', fun j p hj hpj hq hx id g1 g2 => ?_⟩)
          · have : q < (G (i + 1)).length := by
              rcases Nat.lt_or_ge q (G (i + 1)).length with h | h
              · exact h
              · rw [R1.dom q h] at hq; cases hq
            show (if q < (G (i + 1)).length then γ q else β q) = some l
            rw [if_pos this]; exact hq
          · by_cases e : j = i
            · subst e; exact hik
            · rw [addX_other e] at hx; exact h1 j p hx hpj hq
          · have hji : j ≠ i := by rintro rfl; rw [addX_same] at hx; cases hx
            rw [addX_other hji] at hx
            have h0 := h3 j p hj hpj hq hx id g1 g2
            show (if id < (G (i + 1)).length then γ id else β id) = none
            by_cases hid : id < (G (i + 1)).length
            · rw [if_pos hid]
              have hlt : id < (G i).length := by
                rcases Nat.lt_or_ge j i with hji | hji
                · have := T.lens (i := j + 1) i (by omega) (by omega); omega
                · have := T.lens (i := i + 1) j (by omega) (by have := T.hk; omega); omega
              exact E1.hole id hlt ((cut_lt hlt).trans h0)
            · rw [if_neg hid]; exact h0
        · have hlx : i ∈ X0 := by
            rcases h3 i o (by omega) ho hp with h | h
            · exact h.1
            · rw [h] at hXi; cases hXi
          have hlk := T.lens (i := i + 1) k (by omega) T.hk
          have hlk0 := T.lens (i := i) k (by omega) T.hk
          have hlm := T.lens (i := k) m h1 h2
          have phl : ∀ {β' : BM} {w' : World}, Rel β' (G m) w' → (∀ id, id < (G i).length ∨ (G (i + 1)).length ≤ id → id < (G m).length → β id = none → β' id = none) → PhL ops k X0 G (addX X i) β' w' := by
            intro β' w' R' hh
            refine ⟨m, h1, h2, fun j p hj hpj hq => ?_, fun j p hj hx hpj => ?_, R', fun j p hj hpj hq hx id g1 g2 => ?_⟩
            · by_cases e : j = i
              · subst e; exact .inr addX_same
              · rw [addX_other e]; exact h3 j p hj hpj hq
            · rw [addX_other (by omega)] at hx; exact h4 j p hj hx hpj
            · have hji : j ≠ i := by rintro rfl; rw [addX_same] at hx; cases hx
              rw [addX_other hji] at hx
              have h0 := h6 j p hj hpj hq hx id g1 g2
              have hjk := T.lens (i := j + 1) k (by omega) T.hk
              refine hh id ?_ (by omega) h0
              rcases Nat.lt_or_ge j i with hji | hji
              · have := T.lens (i := j + 1) i (by omega) (by omega); omega
              · have := T.lens (i := i + 1) j (by omega) (by have := T.hk; omega); omega
          have hsm : ∀ j, k ≤ j → j < m → j ∈ X0 → G (j + 1) = G j := fun j hkj hjm hjx => by
            have hjs : j < ops.size := by omega
            have hop : ops[j]? = some ops[j] := Array.getElem?_eq_getElem hjs
            cases hq : quiet ops k (ops[j]).op with
            | true =>
              refine T.same (i := j) (j + 1) (by omega) (by omega) fun q p g1 g2 g3 => ?_
              have : q = j := by omega
              subst this
              rw [hop] at g3
              cases g3
              exact hq
            | false =>
              exfalso
              rcases h3 j _ hjm hop hq with h | h
              · omega
              · have := waits_in hc I.closed hjs h (chkL_after hcL hjx hkj hlx hik)
                rw [this] at hXi
                cases hXi
          rcases L.lax i o ho hlx hik hw with ⟨hrd, hrf⟩ | ⟨c0, c1, c2, c3, c4⟩
          · obtain ⟨hq⟩ | ⟨f, args, hq, _⟩ := hr
            case inr => exact (read_not_call hrd hq).elim
            have hq' : aop P (E i) (G i) o.op = .val (V i) (G (i + 1)) := by assumption
            have hqm := (read_any (G := G m) hrd hq' fun x hx u hu id hid => by
              obtain ⟨hK, hlt⟩ := hrf.at x hx u hu id hid
              rw [L.stands m h1 h2 hsm id (by omega) (.inl hK)]
              exact (pre_back (T.pre k (i := i) (by omega) (Nat.le_refl _)) hlt).symm).2
            obtain ⟨v', w', β', hrun, R', E', t⟩ := aop_val (P := P) h5 hOp hqm
            have E0 := hX.trans E' (T.lens m (Nat.zero_le _) h2)
            have ph := phl R' (fun id _ hid h0 => E'.hole id hid h0)
            unfold Oper.wp
            rcases hrun with hrun | ⟨hrun, rfl⟩
            · rw [hrun]; exact mk (hE.ext E') t E0 (.inr ph)
            · rw [hrun]; exact mk (hE.ext E') t E0 (.inr ph)
          have hle := c4.length_le
          have hmd : ∀ i' o', (G i).length ≤ i' → (G (i + 1))[i']? = some o' → o'.ro = false := by
            obtain ⟨hq⟩ | ⟨f, args, hq, _⟩ := hr
            case inr => exact (bs_not_call c0 hq).elim
            exact bs_made (P := P) (env := E i) (v := V i) c0 (by assumption)
          have st1 : ∀ id, kN N id = true → id < (G (i + 1)).length → (G m)[id]? = (G (i + 1))[id]? := fun id hK hid => by
            rw [L.stands m h1 h2 hsm id (by omega) (.inr hK)]
            exact (pre_back (T.pre k (i := i + 1) (by omega) (Nat.le_refl _)) hid).symm
          have st0 : ∀ id, kN N id = true → id < (G i).length → (G m)[id]? = (G i)[id]? := fun id hK hid => by
            rw [st1 id hK (by omega)]
            exact (pre_back c4 hid).symm
          have hOp' : OpT (kp (kN N) (G i).length β) (E i) a o.op := fun x hx v hv => c1.at x hx v hv _ _ (hOp x hx v hv)
          refine op_real hr (h5.keep st0 c2) wfi eri hOp' fun v' w' γ R1 E1 t => ?_
          obtain ⟨R', EE, sub⟩ := h5.besideK c4 (by omega) st1 c3 c2 hmd R1 E1 (h6 i o hik ho hp hXi)
          have E' := EE (G 0).length (T.lens i (Nat.zero_le _) (by omega))
          refine mk (hE.ext E') (t.sub sub) (hX.trans E' (Nat.le_refl _)) (.inr (phl R' fun id hd hid h0 => ?_))
          show (if kN N id = true ∧ id < (G (i + 1)).length then γ id else β id) = none
          by_cases hid : kN N id = true ∧ id < (G (i + 1)).length
          · rw [if_pos hid]
            have hlt : id < (G i).length := by omega
            exact E1.hole id hlt ((kp_in hid.1 hlt).trans h0)
          · rw [if_neg hid]; exact h0
  · rw [hw]
    simp only [Bool.false_eq_true, if_false]
    have t : T3 β (V i) undef := by rw [hv]; exact undef_T3
    refine mk hE t hX ?_
    cases hp : quiet ops k o.op with
    | true =>
      rcases hph with ⟨h1, h2, h3⟩ | ⟨m, h1, h2, h3, h4, h5, h6⟩
      · refine .inl ⟨fun j p hx hpj hq => ?_, h2, fun j p hj hpj hq hx id g1 g2 => ?_⟩
        · by_cases e : j = i
          · subst e; rw [ho] at hpj; cases hpj; rw [hp] at hq; cases hq
          · rw [addX_other e] at hx; exact h1 j p hx hpj hq
        · have hji : j ≠ i := by rintro rfl; rw [addX_same] at hx; cases hx
          rw [addX_other hji] at hx
          exact h3 j p hj hpj hq hx id g1 g2
      · refine .inr ⟨m, h1, h2, fun j p hj hpj hq => ?_, fun j p hj hx hpj => ?_, h5, fun j p hj hpj hq hx id g1 g2 => ?_⟩
        · by_cases e : j = i
          · subst e; exact .inr addX_same
          · rw [addX_other e]; exact h3 j p hj hpj hq
        · by_cases e : j = i
          · subst e; rw [ho] at hpj; cases hpj; exact hp
          · rw [addX_other e] at hx; exact h4 j p hj hx hpj
        · have hji : j ≠ i := by rintro rfl; rw [addX_same] at hx; cases hx
          rw [addX_other hji] at hx
          exact h6 j p hj hpj hq hx id g1 g2
    | false =>
      by_cases hki : k ≤ i
      · obtain ⟨m, h1, h2, h3, h4, R, h6⟩ := toB hp hki
        exact .inr (afterB hp hki ⟨m, h1, h2, h3, h4⟩ (hG ▸ R) (fun _ _ h => h) h6)
      · have hik : i < k := by omega
        rcases hph with ⟨h1, h2, h3⟩ | ⟨m, h1, h2, h3, h4, h5, h6⟩
        · refine .inl ⟨fun j p hx hpj hq => ?_, h2, fun j p hj hpj hq hx id g1 g2 => ?_⟩
          · by_cases e : j = i
            · subst e; exact hik
            · rw [addX_other e] at hx; exact h1 j p hx hpj hq
          · have hji : j ≠ i := by rintro rfl; rw [addX_same] at hx; cases hx
            rw [addX_other hji] at hx
            exact h3 j p hj hpj hq hx id g1 g2
        · refine .inr ⟨m, h1, h2, fun j p hj hpj hq => ?_, fun j p hj hx hpj => ?_, h5, fun j p hj hpj hq hx id g1 g2 => ?_⟩
          · by_cases e : j = i
            · subst e; exact .inr addX_same
            · rw [addX_other e]; exact h3 j p hj hpj hq
          · rw [addX_other (by omega)] at hx; exact h4 j p hj hx hpj
          · have hji : j ≠ i := by rintro rfl; rw [addX_same] at hx; cases hx
            rw [addX_other hji] at hx
            exact h6 j p hj hpj hq hx id g1 g2

theorem InvL.fin (T : Trace P nt ops k V E G) {β0 : BM} {w0 : World} {X : Nat → Bool} {a : Act} {w : World} (I : InvL nt ops k X0 V E G β0 w0 X a w) (hall : ∀ j, j < ops.size → X j = true) :
    ∃ β, St nt β (E ops.size) (G ops.size) a w ∧ Ext (G 0).length β0 w0 β w := by
  obtain ⟨β, hE, hX, hph⟩ := I.core
  obtain ⟨wf, er⟩ := T.all ops.size (Nat.le_refl _)
  have he : fold ops V X (E 0) ops.size = E ops.size := by
    rw [← fold_all (V := V) (E := E) rfl (fun j hj => (T.step j hj).1) ops.size (Nat.le_refl _)]
    funext t
    exact fold_congr ops.size fun j hj _ => hall j hj
  rw [he] at hE
  refine ⟨β, ⟨?_, wf, hE, er, I.size, I.defers⟩, hX⟩
  rcases hph with ⟨h1, h2, h3⟩ | ⟨m, h1, h2, h3, h4, h5, _⟩
  · rw [T.same ops.size T.hk (Nat.le_refl _) fun q o hq hlt ho => ?_]
    · exact h2
    · cases hp : quiet ops k o.op with
      | true => rfl
      | false => have := h1 q o (hall q hlt) ho hp; omega
  · rw [T.same ops.size h2 (Nat.le_refl _) fun q o hq hlt ho => h4 q o hq (hall q hlt) ho]
    exact h5
theorem InvL.any (hcL : chkL ops B k X0 = true) (TL : TraceL P nt ops k K N X0 V E G) {β0 : BM} {w0 : World} {NN : Exit → Act → World → Prop} (hK : ∀ β a w, St nt β (E ops.size) (G ops.size) a w → Ext (G 0).length β0 w0 β w → NN .normal a w) :
    ∀ (fuel : Nat) (L : Array Bool) (a : Act) (w : World), L.size = ops.size → cnt (fun j => L.getD j false) ops.size ≤ fuel → InvL nt ops k X0 V E G β0 w0 (fun j => L.getD j false) a w → wpAny P .any ops NN fuel L a w := by
  have T := TL.T
  have hc := chkL_all hcL
  have done : ∀ (L : Array Bool) (a : Act) (w : World), L.size = ops.size → InvL nt ops k X0 V E G β0 w0 (fun j => L.getD j false) a w → Region.ready .any ops L = [] → NN .normal a w := by
    intro L a w hL I hr
    have hall : ∀ j, j < ops.size → L.getD j false = true := by
      intro j
      induction j using Nat.strongRecOn with
      | _ j ih =>
        intro hj
        cases hX : L.getD j false with
        | true => rfl
        | false =>
          exfalso
          have hoj : ops[j]? = some ops[j] := Array.getElem?_eq_getElem hj
          have hb0 : okBits ops B = true := by unfold chk at hc; rw [Bool.and_eq_true] at hc; exact hc.1
          have : j ∈ Region.ready .any ops L := by
            unfold Region.ready
            refine List.mem_filter.2 ⟨List.mem_range.2 hj, ?_⟩
            have h1 : L.getD j true = false := by
              rw [Array.getD_eq_getD_getElem?] at hX ⊢
              rw [Array.getElem?_eq_getElem (by omega)] at hX ⊢
              exact hX
            rw [h1, hoj]
            simp only [Bool.not_false, Bool.true_and, Option.map_some, Option.getD_some]
            rw [Array.all_eq_true_iff_forall_mem]
            intro e he
            cases hbe : Region.binds .any e with
            | false => rfl
            | true =>
              have hd : e.on ∈ needs ops[j] := by
                unfold needs
                exact List.mem_map.2 ⟨e, List.mem_filter.2 ⟨by simpa using he, hbe⟩, rfl⟩
              have := (okBits_at hb0 hoj).1 e.on hd
              have := ih e.on this (by omega)
              simpa using this
          rw [hr] at this
          cases this
    obtain ⟨β, S, E'⟩ := I.fin T hall
    exact hK β a w S E'
  intro fuel
  induction fuel with
  | zero =>
    intro L a w hL hn I
    have hall := cnt_zero ops.size (Nat.le_zero.1 hn)
    have hr : Region.ready .any ops L = [] := by
      unfold Region.ready
      refine List.filter_eq_nil_iff.2 fun j hj => ?_
      have hjn := List.mem_range.1 hj
      have h1 : L.getD j true = true := by
        have := hall j hjn
        rw [Array.getD_eq_getD_getElem?] at this ⊢
        rw [Array.getElem?_eq_getElem (by omega)] at this ⊢
        exact this
      simp [h1]
    exact ⟨hr, done L a w hL I hr⟩
  | succ fuel ih =>
    intro L a w hL hn I
    refine ⟨done L a w hL I, fun i hi => ?_⟩
    unfold Region.ready at hi
    obtain ⟨h1, h2⟩ := List.mem_filter.1 hi
    have hin := List.mem_range.1 h1
    have hoi : ops[i]? = some ops[i] := Array.getElem?_eq_getElem hin
    rw [Bool.and_eq_true] at h2
    obtain ⟨h2, h3⟩ := h2
    have hXi : L.getD i false = false := by
      rw [Array.getD_eq_getD_getElem?] at h2 ⊢
      rw [Array.getElem?_eq_getElem (by omega)] at h2 ⊢
      simpa using h2
    rw [hoi] at h3
    simp only [Option.map_some, Option.getD_some] at h3
    rw [Array.all_eq_true_iff_forall_mem] at h3
    have hne : ∀ d ∈ needs ops[i], L.getD d false = true := by
      intro d hd
      unfold needs at hd
      obtain ⟨e, he, rfl⟩ := List.mem_map.1 hd
      obtain ⟨he1, he2⟩ := List.mem_filter.1 he
      have := h3 e (by simpa using he1)
      rw [he2] at this
      simpa using this
    refine I.one hcL TL hoi hne hXi fun a' w' I' => ?_
    have hset : (fun j => (L.setIfInBounds i true).getD j false) = addX (fun j => L.getD j false) i := by
      funext j
      unfold addX
      rw [Array.getD_eq_getD_getElem?, Array.getElem?_setIfInBounds]
      by_cases e : i = j
      · subst e
        rw [if_pos rfl, if_pos (by omega), if_pos rfl]
        rfl
      · rw [if_neg e, if_neg (fun h => e h.symm)]
        show _ = L.getD j false
        rw [Array.getD_eq_getD_getElem?]
    refine ih _ a' w' (by simp [hL]) ?_ ?_
    · rw [hset]
      have := cnt_add (X := fun j => L.getD j false) hXi ops.size hin
      omega
    · rw [hset]; exact I'

theorem anyL {env : Env} {H : AH} {Q : Exit → Env → AH → Prop} {π σ : List Nat} (hp : okP ops.size π σ = true) (hc : chkL (rlL π σ ops.toList).toArray B k X0 = true) (hk : k ≤ ops.size)
    (h : ARunL P nt (rlL π σ ops.toList).toArray k K N X0 (fun env H => Q .normal env H) 0 (rlL π σ ops.toList) env H) :
    ∀ β w a (NN : Exit → Act → World → Prop), St nt β env H a w → (∀ x env' H' β' a' w', Q x env' H' → St nt β' env' H' a' w' → Ext H.length β w β' w' → H.length ≤ H'.length → NN x a' w') →
      wpAny P .any ops NN ops.size (Array.replicate ops.size false) a { w with drawn := w.drawn + 1 } := by
  intro β w a NN S hK
  have ok := okP_spec hp
  have hsz := (rl_get ok).1
  have key : wpAny P .any (rlL π σ ops.toList).toArray NN (rlL π σ ops.toList).toArray.size (Array.replicate (rlL π σ ops.toList).toArray.size false) a { w with drawn := w.drawn + 1 } := by
    rw [← hsz] at hk
    generalize rlL π σ ops.toList = l at h hc hk ⊢
    obtain ⟨V, E, G, h1, h2, h3, h4⟩ := traceL_of (ops := l.toArray) l 0 env H rfl (by simp) h
    have T : Trace P nt l.toArray k V E G := ⟨fun i hi => ⟨(h4 i (Nat.zero_le _) hi).1, (h4 i (Nat.zero_le _) hi).2.1⟩, by rw [h2]; exact S.wf, by rw [h1, h2]; exact S.er, hk⟩
    have L : TraceL P nt l.toArray k K N X0 V E G := ⟨T, fun i hi hki => (h4 i (Nat.zero_le _) hi).2.2.1 hki, fun i o ho hx hk' hw => (h4 i (Nat.zero_le _) (Array.getElem?_eq_some_iff.1 ho).1).2.2.2 o ho hx hk' hw⟩
    have hs : SameHeap w { w with drawn := w.drawn + 1 } := ⟨rfl, rfl, rfl, rfl⟩
    have hL : (fun j => (Array.replicate l.toArray.size false).getD j false) = fun _ => false := by
      funext j
      rw [Array.getD_eq_getD_getElem?, Array.getElem?_replicate]
      split <;> rfl
    have hf : fold l.toArray V (fun _ => false) (E 0) l.toArray.size = env := by
      have : ∀ m, fold l.toArray V (fun _ => false) (E 0) m = E 0 := by
        intro m
        induction m with
        | zero => rfl
        | succ m ih => simp [fold, ih]
      rw [this, h1]
    refine InvL.any hc L (β0 := β) (w0 := w) (fun β' a' w' S' E' => hK _ _ _ _ _ _ h3 S' (by rw [← h2]; exact E') (by rw [← h2]; exact T.lens _ (Nat.zero_le _) (Nat.le_refl _))) l.toArray.size _ a _ (by simp) (by rw [hL, cnt_none]; exact Nat.le_refl _) ?_
    rw [hL]
    refine ⟨fun j o hj => (by cases hj), fun j hj => (by cases hj), S.size, S.defers, β, by rw [hf]; exact S.envT, Ext.same _ hs, .inl ⟨fun j o hj => (by cases hj), ?_, fun i o hi ho hp hx id g1 g2 => ?_⟩⟩
    · have := T.pre k (i := 0) (Nat.zero_le _) (Nat.le_refl _)
      rw [h2] at this
      exact (S.rel.same hs).more this
    · have := T.lens (i := 0) i (Nat.zero_le _) (by have := T.hk; omega)
      rw [h2] at this
      exact S.rel.dom id (by omega)
  rw [hsz] at key
  refine rl_any ok ops.size _ _ a _ ⟨by simp, by simp, fun i p hs => ?_⟩ key
  have hi : i < ops.size := by rw [← ok.ls]; exact (List.getElem?_eq_some_iff.1 hs).1
  obtain ⟨p', h1, h2⟩ := ok.ps i hi
  rw [hs] at h1
  cases h1
  have hpl : p < ops.size := by rw [← ok.lp]; exact (List.getElem?_eq_some_iff.1 h2).1
  simp [Array.getElem?_replicate, hi, hpl]
theorem AWp.drawnL {id : Nat} {env : Env} {H : AH} {Q : Exit → Env → AH → Prop} {π σ : List Nat} (hm : P.follows .mixedOrders = true) (hp : okP ops.size π σ = true) (hc : chkL (rlL π σ ops.toList).toArray B k X0 = true) (hk : k ≤ ops.size)
    (h : ARunL P nt (rlL π σ ops.toList).toArray k K N X0 (fun env H => Q .normal env H) 0 (rlL π σ ops.toList) env H) : AWp P nt (.region id ops true) Q env H := fun β w a NN S hK => wp_region_any hm (anyL hp hc hk h β w a NN S hK)
theorem ARunL.plain {Q : Env → AH → Prop} : ∀ (l : List Oper) (i : Nat) (env : Env) (H : AH), ARunL P nt ops k K N X0 Q i l env H → ARunD P nt ops k Q i l env H
  | [], i, env, H, h => h
  | o :: r, i, env, H, h => by
    unfold ARunL at h
    unfold ARunD
    split at h
    case isFalse => exact h.elim
    rename_i hok
    rw [if_pos hok]
    split
    · rename_i hw
      rw [if_pos hw] at h
      unfold AStepD at h ⊢
      split at h
      · exact ⟨h.1.1, ARunL.plain _ _ _ _ h.2⟩
      · obtain ⟨v, H', a, b, c⟩ := h
        exact ⟨v, H', a, b.1, ARunL.plain _ _ _ _ c⟩
      · exact h.elim
    · rename_i hw
      rw [if_neg hw] at h
      exact ARunL.plain _ _ _ _ h
theorem ARunL.mono {Q Q' : Env → AH → Prop} (hq : ∀ e G, Q e G → Q' e G) : ∀ (l : List Oper) (i : Nat) (env : Env) (H : AH), ARunL P nt ops k K N X0 Q i l env H → ARunL P nt ops k K N X0 Q' i l env H
  | [], i, env, H, h => hq _ _ h
  | o :: r, i, env, H, h => by
    unfold ARunL at h ⊢
    split at h
    case isFalse => exact h.elim
    rename_i hok
    rw [if_pos hok]
    split
    · rename_i hw
      rw [if_pos hw] at h
      unfold AStepD at h ⊢
      split at h
      · exact ⟨h.1, ARunL.mono hq _ _ _ _ h.2⟩
      · obtain ⟨v, H', a, b, c⟩ := h
        exact ⟨v, H', a, b, ARunL.mono hq _ _ _ _ c⟩
      · exact h.elim
    · rename_i hw
      rw [if_neg hw] at h
      exact ARunL.mono hq _ _ _ _ h
theorem arunL_det : ∀ {Q : Env → AH → Prop} (l : List Oper) (i : Nat) (env : Env) (H : AH), ARunL P nt ops k K N X0 Q i l env H → ∃ env' H', ARunL P nt ops k K N X0 (fun e G => e = env' ∧ G = H') i l env H ∧ Q env' H'
  | Q, [], i, env, H, h => ⟨env, H, ⟨rfl, rfl⟩, h⟩
  | Q, o :: r, i, env, H, h => by
    unfold ARunL at h
    split at h
    case isFalse => exact h.elim
    rename_i hok
    by_cases hw : Region.wanted o (ayield ops env) = true
    · rw [if_pos hw] at h
      unfold AStepD at h
      split at h
      · rename_i he
        obtain ⟨e', H', a, b⟩ := arunL_det _ _ _ _ h.2
        refine ⟨e', H', ?_, b⟩
        unfold ARunL AStepD
        rw [if_pos hok, if_pos hw]
        simp only [he]
        exact ⟨h.1, a⟩
      · rename_i he
        obtain ⟨v, H1, hc, g, h2⟩ := h
        obtain ⟨e', H', a, b⟩ := arunL_det _ _ _ _ h2
        refine ⟨e', H', ?_, b⟩
        unfold ARunL AStepD
        rw [if_pos hok, if_pos hw]
        simp only [he]
        exact ⟨v, H1, hc, g, a⟩
      · exact h.elim
    · rw [if_neg hw] at h
      obtain ⟨e', H', a, b⟩ := arunL_det _ _ _ _ h
      refine ⟨e', H', ?_, b⟩
      unfold ARunL
      rw [if_pos hok, if_neg hw]
      exact a
theorem DWp.drawnL {id : Nat} {env : Env} {H : AH} {Q : Exit → Env → AH → Prop} {π σ : List Nat} (k : Nat) (K : Nat → Bool) (N : Option Nat) (hm : P.follows .mixedOrders = true) (hp : okP ops.size π σ = true) (hc : chkL (rlL π σ ops.toList).toArray B k X0 = true) (hk : k ≤ ops.size)
    (h : ∀ NN : Env → AH → Prop, (∀ env H, Q .normal env H → NN env H) → ARunL P nt (rlL π σ ops.toList).toArray k K N X0 NN 0 (rlL π σ ops.toList) env H) : DWp P nt (.region id ops true) Q env H := by
  obtain ⟨env', H', h1, h2⟩ := arunL_det _ _ _ _ (h _ fun _ _ h => h)
  obtain ⟨env2, H2, h3, h4, h5⟩ := arunD_det _ _ _ _ h1.plain
  obtain ⟨rfl, rfl⟩ := h5
  exact ⟨.normal, env2, H2, AWp.drawnL hm hp hc hk (by simpa using h1), h4, h2⟩
end
end Go.Proofs.Ytdbflchpbhkanaa.AL
namespace Go.Proofs.Ytdbflchpbhkanaa.AL
open Go Go.RowKit
attribute [local simp] aBin' aBin aBinI aUn aNil flatV
set_option linter.unusedVariables false
set_option linter.unusedSimpArgs false

def ContL (P : Program) (nt : Nat) (ops : Array Oper) (k : Nat) (K : Nat → Bool) (N : Option Nat) (X : List Nat) (Q : Env → AH → Prop) (i : Nat) (o : Oper) (r : List Oper) (env : Env) (H : AH) : Value → AH → Prop := fun v H' => ((i < k → H <+: H') ∧ (k ≤ i → i ∈ X ∨ (Stand K H H' ∧ Stand (kN N) H H')) ∧ (i ∈ X → i < k → LaxC K N env o H H')) ∧ ARunL P nt ops k K N X Q (i + 1) r (aput env o.dst v) H'
@[simp] theorem ContL_apply {P : Program} {nt : Nat} {ops : Array Oper} {k : Nat} {K : Nat → Bool} {N : Option Nat} {X : List Nat} {Q : Env → AH → Prop} {i : Nat} {o : Oper} {r : List Oper} {env : Env} {H H' : AH} {v : Value} :
    ContL P nt ops k K N X Q i o r env H v H' = (((i < k → H <+: H') ∧ (k ≤ i → i ∈ X ∨ (Stand K H H' ∧ Stand (kN N) H H')) ∧ (i ∈ X → i < k → LaxC K N env o H H')) ∧ ARunL P nt ops k K N X Q (i + 1) r (aput env o.dst v) H') := rfl
def AGoL (g w : Bool) (P : Program) (H : AH) (r : AR) (K : Value → AH → Prop) (K0 : Prop) : Prop := if g = true then (if w = true then (match r with
  | .val v H' => K v H'
  | .call f args => CallD P f args H K
  | .bad => False) else K0) else False
@[simp] theorem AGoL_val {P : Program} {H H' : AH} {v : Value} {K : Value → AH → Prop} {K0 : Prop} : AGoL true true P H (.val v H') K K0 = K v H' := by simp [AGoL]
@[simp] theorem AGoL_off {P : Program} {H : AH} {r : AR} {K : Value → AH → Prop} {K0 : Prop} : AGoL true false P H r K K0 = K0 := by simp [AGoL]
@[simp] theorem ARunL_nil {P : Program} {nt k i : Nat} {ops : Array Oper} {K : Nat → Bool} {N : Option Nat} {X : List Nat} {Q : Env → AH → Prop} {env : Env} {H : AH} : ARunL P nt ops k K N X Q i [] env H = Q env H := rfl
@[simp] theorem ARunL_cons {P : Program} {nt k i : Nat} {ops : Array Oper} {K : Nat → Bool} {N : Option Nat} {X : List Nat} {Q : Env → AH → Prop} {env : Env} {H : AH} {o : Oper} {r : List Oper} : ARunL P nt ops k K N X Q i (o :: r) env H =
    AGoL (okDst nt o.dst && okGuard ops env o) (Region.wanted o (ayield ops env)) P H (aop P env H o.op) (ContL P nt ops k K N X Q i o r env H) (ARunL P nt ops k K N X Q (i + 1) r (aput env o.dst undef) H) := by
  simp only [ARunL, AGoL, Bool.and_eq_true, ContL]
  rfl
@[simp] theorem Stand_refl {K : Nat → Bool} {H : AH} : Stand K H H = True := eq_true .rfl'
@[simp] theorem RefK_int {K : Nat → Bool} {n : Nat} {k : IntKind} {x : Int} : RefK K n (.int k x) = True := eq_true fun i h => by simp [idV] at h
@[simp] theorem OnlyK_int {K : Nat → Bool} {n : Nat} {k : IntKind} {x : Int} : OnlyK K n (.int k x) = True := eq_true (.plain rfl)
@[simp] theorem OnlyK_bool {K : Nat → Bool} {n : Nat} {x : Bool} : OnlyK K n (.bool x) = True := eq_true (.plain rfl)
@[simp] theorem OnlyK_str {K : Nat → Bool} {n : Nat} {x : ByteArray} : OnlyK K n (.string x) = True := eq_true (.plain rfl)
attribute [simp] LaxC RefKs OnlyKs readK bsK Op.operands
def strip (o : Oper) : Oper := { o with after := #[] }
theorem strip_yield {ops : Array Oper} {env : Env} {j : Nat} : ayield (ops.map strip) env j = ayield ops env j := by
  unfold ayield
  rw [Array.getElem?_map]
  cases ops[j]? <;> rfl
theorem strip_dst {ops : Array Oper} {j : Nat} : ((ops.map strip)[j]?.bind fun x => x.dst) = ops[j]?.bind fun x => x.dst := by
  rw [Array.getElem?_map]
  cases ops[j]? <;> rfl
theorem strip_guard {ops : Array Oper} {env : Env} {o : Oper} : okGuard (ops.map strip) env (strip o) = okGuard ops env o := by
  unfold okGuard
  have : (strip o).guard = o.guard := rfl
  rw [this]
  cases o.guard with
  | none => rfl
  | some g => simp only [strip_yield, strip_dst]
theorem strip_wanted {ops : Array Oper} {env : Env} {o : Oper} : Region.wanted (strip o) (ayield (ops.map strip) env) = Region.wanted o (ayield ops env) := by
  have : ayield (ops.map strip) env = ayield ops env := funext fun j => strip_yield
  rw [this]
  rfl
theorem ARunL.strip {P : Program} {nt k : Nat} {ops : Array Oper} {K : Nat → Bool} {N : Option Nat} {X : List Nat} {Q : Env → AH → Prop} : ∀ (l : List Oper) (i : Nat) (env : Env) (H : AH), ARunL P nt (ops.map AL.strip) k K N X Q i (l.map AL.strip) env H → ARunL P nt ops k K N X Q i l env H
  | [], i, env, H, h => h
  | o :: r, i, env, H, h => by
    rw [List.map_cons] at h
    unfold ARunL at h ⊢
    rw [strip_guard, strip_wanted] at h
    split at h
    case isFalse => exact h.elim
    rename_i hok
    rw [if_pos (show okDst nt o.dst = true ∧ okGuard ops env o = true from hok)]
    split
    · rename_i hw
      rw [if_pos hw] at h
      unfold AStepD at h ⊢
      have e : (AL.strip o).op = o.op := rfl
      rw [e] at h
      split at h
      · exact ⟨h.1, ARunL.strip _ _ _ _ h.2⟩
      · obtain ⟨v, H', a, b, c⟩ := h
        exact ⟨v, H', a, b, ARunL.strip _ _ _ _ c⟩
      · exact h.elim
    · rename_i hw
      rw [if_neg hw] at h
      exact ARunL.strip _ _ _ _ h
def rlb0 (σ : List Nat) (o : Oper) : Oper := { o with after := #[], guard := o.guard.map fun g => (σ.getD g.1 g.1, g.2) }
def rl0 (π σ : List Nat) (ops : List Oper) : List Oper := π.filterMap fun i => (ops[i]?).map (rlb0 σ)
theorem rl0_eq {σ : List Nat} {ops : List Oper} : ∀ π : List Nat, rl0 π σ ops = (rlL π σ ops).map strip
  | [] => rfl
  | i :: π => by
    unfold rl0 rlL
    rw [List.filterMap_cons, List.filterMap_cons]
    have ih := rl0_eq (σ := σ) (ops := ops) π
    unfold rl0 rlL at ih
    cases ops[i]? with
    | none => simpa using ih
    | some o => simp only [Option.map_some, List.map_cons, ih]; rfl
theorem DWp.drawn0 {P : Program} {nt : Nat} {ops : Array Oper} {B : List Nat} {X0 : List Nat} {id : Nat} {env : Env} {H : AH} {Q : Exit → Env → AH → Prop} {π σ : List Nat} (k : Nat) (K : Nat → Bool) (N : Option Nat) (hm : P.follows .mixedOrders = true) (hp : okP ops.size π σ = true) (hc : chkL (rlL π σ ops.toList).toArray B k X0 = true) (hk : k ≤ ops.size)
    (h : ∀ NN : Env → AH → Prop, (∀ env H, Q .normal env H → NN env H) → ARunL P nt (rl0 π σ ops.toList).toArray k K N X0 NN 0 (rl0 π σ ops.toList) env H) : DWp P nt (.region id ops true) Q env H :=
  DWp.drawnL k K N hm hp hc hk fun NN hN => ARunL.strip _ _ _ _ (by
    have := h NN hN
    rw [rl0_eq] at this
    rwa [List.map_toArray])
def kpl (vs : List Value) : Nat → Bool := fun i => vs.any fun v => idV v == some i
theorem kpl_some {vs : List Value} {i : Nat} (h : kpl vs i = true) : ∃ v ∈ vs, idV v = some i := by
  obtain ⟨v, hv, e⟩ := List.any_eq_true.1 h
  exact ⟨v, hv, by simpa using e⟩
theorem kpl_of {vs : List Value} {v : Value} {i : Nat} (hv : v ∈ vs) (h : idV v = some i) : kpl vs i = true := List.any_eq_true.2 ⟨v, hv, by simp [h]⟩
theorem Sl.idV {G : AH} {v : Value} {cs : List Value} (h : Sl G v cs) : AL.idV v = idOf v := by
  rcases h with ⟨rfl, _⟩ | ⟨j, off, g, c, o, rfl, _⟩ <;> rfl
theorem plainK_top {G : AH} : PlainK (kN G.length) G := fun i o h ho => by
  exfalso
  have := (List.getElem?_eq_some_iff.1 ho).1
  simp [kN] at h
  omega
theorem madeK_top {G G' : AH} : MadeK (kN G.length) G G' := fun i h _ => by simpa [kN] using h
section
variable {P : Program} {G G0 : AH} {B : Nat → Prop} {l l0 : List Item} {u s : Value} {t t2 e : TypeId} {k : Nat} {q : EInfo}
theorem append_same {v' : Value} {G' : AH} (h : aAppend P G t t2 u s = some (v', G')) : ∀ i, i < G.length → i ∉ ids u → G'[i]? = G[i]? := fun i hi hm => by
  unfold aAppend at h
  (repeat' (split at h)) <;> first
    | (cases h; done)
    | (cases h; rfl)
    | (cases h; simp only [aNew]; exact List.getElem?_append_left hi)
    | (cases h; refine List.getElem?_set_ne fun e => hm ?_; subst e; simp [ids, idOf])
theorem stand_kN {G G' : AH} (h : ∀ i, i < G.length → i ∉ ids u → G'[i]? = G[i]?) (h0 : Sep G0 B l0) (hk : ∃ c, l0[k]? = some (flat u e c)) : Stand (kN G0.length) G G' := fun i hi hK => h i hi fun hm => by
  obtain ⟨c, hk⟩ := hk
  obtain ⟨F, p, hF⟩ := h0.get hk
  obtain ⟨_, rfl⟩ := p
  have := (hF i hm).2
  simp [kN] at hK
  omega
theorem stand_kpl {G G' : AH} {vs : List Value} (h : ∀ i, i < G.length → i ∉ ids u → G'[i]? = G[i]?) (ha : ∀ v ∈ vs, ∀ i ∈ ids u, AL.idV v ≠ some i) : Stand (kpl vs) G G' := fun i hi hK => h i hi fun hm => by
  obtain ⟨v, hv, e⟩ := kpl_some hK
  exact ha v hv i hm e
@[simp] theorem stand_none {G G' : AH} : Stand (kN none) G G' = True := eq_true fun i hi hK => by simp [kN] at hK
theorem refK_box {p : Value} {cells vs : List Value} (h : Sep G B l) (hk : l[k]? = some (AL.box p cells)) (hm : p ∈ vs) : RefK (kpl vs) G.length p := fun i hi => by
  obtain ⟨j, ⟨rfl, _⟩, _, hj⟩ := h.boxAt hk
  have : j = i := by simpa [ptrAt, AL.idV] using hi
  subst this
  exact ⟨kpl_of hm hi, hj⟩
theorem refK_fld {K : Nat → Bool} {n off : Nat} {p : Value} (h : RefK K n p) : RefK K n (fldP p off) := fun i hi => h i (by
  unfold fldP at hi
  split at hi
  · exact hi
  · exact hi)
theorem Sep.ids_apartB {cells c : List Value} {p : Value} {j : Nat} (h0 : Sep G0 B l0) (hk : l0[k]? = some (flat u e c)) (hj : l0[j]? = some (AL.box p cells)) (hn : k ≠ j) : ∀ i ∈ ids u, AL.idV p ≠ some i := fun i hi hv => by
  obtain ⟨F, h1, h2⟩ := h0
  obtain ⟨_, q⟩ := (h1 k _ hk).1
  obtain ⟨m, ⟨rfl, _⟩, r⟩ := (h1 j _ hj).1
  have : m = i := by simpa [ptrAt, AL.idV] using hv
  subst this
  exact h2 k j (List.getElem?_eq_some_iff.1 hk).1 (List.getElem?_eq_some_iff.1 hj).1 hn m (by rw [q]; exact hi) (by rw [r]; simp)
end
end Go.Proofs.Ytdbflchpbhkanaa.AL
namespace Go.Proofs.Ytdbflchpbhkanaa.AL
open Go Go.RowKit
attribute [local simp] aBin' aBin aBinI aUn aNil flatV
set_option linter.unusedVariables false
set_option linter.unusedSimpArgs false
section
variable {P : Program} {H : AH} {t e : TypeId} {v : Value} {cs : List Value}
theorem nil_tt (hu : P.underlying t = some (.slice e)) : aBin' P H .eql t (.slice none 0 0) (.slice none 0 0) = some (.bool true) := by
  simp [aBin', aBin, aliveS, hu, eqB]
theorem nil_ff (hu : P.underlying t = some (.slice e)) (h : Sl H v cs) (hn : v ≠ .slice none 0 0) : aBin' P H .eql t v (.slice none 0 0) = some (.bool false) := by
  rcases h with ⟨rfl, _⟩ | ⟨i, off, g, c, o, rfl, h2, _⟩
  · exact absurd rfl hn
  · simp [aBin', aBin, aliveS, h2, hu, eqB]
end
end Go.Proofs.Ytdbflchpbhkanaa.AL
namespace Go.Proofs.Ytdbflchpbhkanaa.AL
open Go Go.RowKit
attribute [local simp] aBin' aBin aBinI aUn aNil flatV
set_option linter.unusedVariables false
set_option linter.unusedSimpArgs false
def SlK (k : Nat) (H : AH) (v : Value) (n : Nat) (cs : List Value) : Prop :=
  cs.length = n * k ∧ ((v = .slice none 0 0 ∧ n = 0) ∨ ∃ i off g c o, v = .slice (some ⟨i, off, some g⟩) n c ∧ alive H i g = some o ∧ (o.cells.drop off).take cs.length = cs ∧ off + cs.length ≤ o.cells.length ∧ o.sz = k)
def OwnK (k : Nat) (H : AH) (e : TypeId) (v : Value) (n : Nat) (cs : List Value) : Prop :=
  cs.length = n * k ∧ ((v = .slice none 0 0 ∧ n = 0) ∨ ∃ i off g c o, v = .slice (some ⟨i, off, some g⟩) n c ∧ H[i]? = some o ∧ o.gen = g ∧ o.elem = e ∧ o.sz = k ∧ o.ro = false ∧ off + cs.length ≤ o.cells.length ∧ (o.cells.drop off).take cs.length = cs)
section
variable {P : Program} {k n : Nat} {G G1 H : AH} {v : Value} {cs : List Value} {t e : TypeId}
theorem OwnK.sl (h : OwnK k H e v n cs) : SlK k H v n cs := by
  obtain ⟨h0, h⟩ := h
  refine ⟨h0, ?_⟩
  rcases h with h | ⟨i, off, g, c, o, rfl, h1, h2, h3, h4, h5, h6, h7⟩
  · exact .inl h
  · exact .inr ⟨i, off, g, c, o, rfl, by simp [alive, h1, h2], h7, h6, h4⟩
theorem OwnK.at (h : OwnK k G e v n cs) (a : ∀ i, idOf v = some i → G1[i]? = G[i]?) : OwnK k G1 e v n cs := by
  obtain ⟨h0, h⟩ := h
  refine ⟨h0, ?_⟩
  rcases h with h | ⟨i, off, g, c, o, rfl, h1, h2⟩
  · exact .inl h
  · exact .inr ⟨i, off, g, c, o, rfl, by rw [a i rfl]; exact h1, h2⟩
theorem OwnK.id_lt (h : OwnK k G e v n cs) {i : Nat} (hi : idOf v = some i) : i < G.length := by
  obtain ⟨h0, h⟩ := h
  rcases h with ⟨rfl, _⟩ | ⟨i', off, g, c, o, rfl, h1, _⟩
  · simp [idOf] at hi
  · simp [idOf] at hi
    subst hi
    exact (List.getElem?_eq_some_iff.1 h1).1
theorem OwnK.nil : OwnK k G e (.slice none 0 0) 0 [] := ⟨by simp, .inl ⟨rfl, rfl⟩⟩
theorem SlK.agree (h : SlK k G v n cs) (a : Agree G.length G G1) : SlK k G1 v n cs := by
  obtain ⟨h0, h⟩ := h
  refine ⟨h0, ?_⟩
  rcases h with h | ⟨i, off, g, c, o, rfl, h1, h2⟩
  · exact .inl h
  · obtain ⟨a1, a2⟩ := alive_some h1
    exact .inr ⟨i, off, g, c, o, rfl, by simp [alive, a i (List.getElem?_eq_some_iff.1 a1).1, a1, a2], h2⟩
theorem SlK.tup (h : SlK k H v n cs) : isTup v = false := by
  rcases h.2 with ⟨rfl, _⟩ | ⟨i, off, g, c, o, rfl, _⟩ <;> rfl
theorem SlK.one (h : SlK k H v n cs) : v.cells = #[v] := by
  rcases h.2 with ⟨rfl, _⟩ | ⟨i, off, g, c, o, rfl, _⟩ <;> rfl
theorem SlK.len (h : SlK k H v n cs) (he : elemT P t = some e) : aLen P H t v = some (.int .i64 (n : Int)) := by
  have hu := elemT_some he
  rcases h.2 with ⟨rfl, rfl⟩ | ⟨i, off, g, c, o, rfl, h2, h3⟩
  · simp [aLen, hu]
  · simp [aLen, hu, h2]
theorem SlK.idx (h : SlK k H v n cs) (he : elemT P t = some e) (hs : sizeT P e = some k) {j : Nat} (hj : j < n) {kk : IntKind} : aIndexAddr P H t v (.int kk (j : Int)) = some (elP v (j * k)) := by
  rcases h.2 with ⟨rfl, rfl⟩ | ⟨i, off, g, c, o, rfl, h2, h3⟩
  · omega
  · have : (j : Int) < (n : Int) := by omega
    simp [aIndexAddr, he, hs, h2, elP, this, hj]
theorem SlK.agg (h : SlK k H v n cs) (hs : sizeT P e = some k) (hb : aggT P e = some true) {j : Nat} (hj : j < n) : aLoad P H e (elP v (j * k)) = some (.agg ((cs.drop (j * k)).take k).toArray) := by
  obtain ⟨h0, h⟩ := h
  have hm : j * k + k ≤ n * k := by
    have : (j + 1) * k ≤ n * k := Nat.mul_le_mul_right k (by omega)
    rw [Nat.add_mul, Nat.one_mul] at this
    exact this
  rcases h with ⟨rfl, rfl⟩ | ⟨i, off, g, c, o, rfl, h2, h3, h4, _⟩
  · omega
  · simp only [elP, aLoad, h2, hs, hb]
    rw [if_pos (by omega)]
    congr 3
    rw [← h3, List.drop_take, List.take_take, List.drop_drop]
    congr 1
    omega
theorem SlK.cell (h : SlK k H v n cs) (hs : sizeT P e = some 1) (hb : aggT P e = some false) {m : Nat} {x : Value} (hk : cs[m]? = some x) : aLoad P H e (elP v m) = some x := by
  obtain ⟨h0, h⟩ := h
  have hlt := (List.getElem?_eq_some_iff.1 hk).1
  rcases h with ⟨rfl, rfl⟩ | ⟨i, off, g, c, o, rfl, h2, h3, h4, _⟩
  · omega
  · simp only [elP, aLoad, h2, hs, hb]
    rw [← h3, List.getElem?_take, if_pos hlt, List.getElem?_drop] at hk
    exact hk
theorem SlK.fld (h : SlK k H v n cs) {f off m : Nat} (hf : fldT P t f = some off) (hn : 0 < n) : aFieldAddr P H t (elP v m) f = some (elP v (m + off)) := by
  rcases h.2 with ⟨rfl, rfl⟩ | ⟨i, o2, g, c, o, rfl, h2, h3, h4, _⟩
  · omega
  · unfold fldT at hf
    unfold aFieldAddr elP
    simp only [h2]
    split at hf
    · rename_i fields hu
      simp only [hu]
      split at hf
      · rename_i fl hfl
        simp only [hfl]
        split at hf
        · rename_i hz
          simp only [hz]
          cases hf
          simp [Nat.add_assoc]
        · cases hf
      · cases hf
    · cases hf
theorem OwnK.apx {q : EInfo} {s u : Value} {t2 : TypeId} {m : Nat} {cells new : List Value} (hk0 : 0 < k) (h : OwnK k G e u n cells) (he : elemT P t = some e) (hq : einfo P e = some q) (hqk : q.size = k) (hd : srcD P t2 = true) (hs : SlK k G s m new) (hm : 0 < m) (hb : n + m ≤ 4294967296) :
    ∃ v' G', aAppend P G t t2 u s = some (v', G') ∧ OwnK k G' e v' (n + m) (cells ++ new) ∧ G.length ≤ G'.length ∧ (∀ i, i < G.length → idOf u ≠ some i → G'[i]? = G[i]?) ∧ (idOf v' = idOf u ∨ idOf v' = some G.length ∧ G.length < G'.length) := by
  obtain ⟨s0, hs⟩ := hs
  obtain ⟨h0, h⟩ := h
  have hsrc : srcOf G k s = some (new, m) := by
    rcases hs with ⟨_, rfl⟩ | ⟨i, off, g, c, o, rfl, h2, h3, h4, _⟩
    · omega
    · simp only [srcOf, h2]
      rw [if_pos (by omega), ← s0, h3]
  have hm0 : ¬ m = 0 := by omega
  have hlen : (cells ++ new).length = (n + m) * k := by rw [List.length_append, h0, s0, Nat.add_mul]
  unfold aAppend
  simp only [he, hq, hqk, hd, hsrc, if_true]
  rcases h with ⟨rfl, rfl⟩ | ⟨i, off, g, c, o, rfl, h1, h2, h3, h4, h5, h6, h7⟩
  · have hc0 : cells = [] := List.eq_nil_of_length_eq_zero (by omega)
    subst hc0
    have hl : m ≤ LIM := by simp only [LIM]; omega
    simp only [hm0, hl, if_true, if_false]
    refine ⟨_, _, rfl, ⟨hlen, .inr ⟨G.length, 0, 0, m + 1, ⟨new, e, k, 0, false⟩, by simp, by simp [aNew], rfl, rfl, rfl, rfl, by simp, by simp⟩⟩, by simp [aNew], fun i hi _ => by rw [aNew, List.getElem?_append_left hi], .inr ⟨rfl, by simp [aNew]⟩⟩
  · have hal : alive G i g = some o := by simp [alive, h1, h2]
    have hi := (List.getElem?_eq_some_iff.1 h1).1
    have hfit : off + n * k ≤ o.cells.length ∧ n + m ≤ LIM := by simp only [LIM]; omega
    have h7' : (o.cells.drop off).take (n * k) = cells := by rw [← h0]; exact h7
    simp only [hal, hm0, if_false]
    rw [if_pos hfit]
    by_cases hc : c = n
    · rw [if_pos hc]
      refine ⟨_, _, rfl, ⟨hlen, .inr ⟨G.length, 0, 0, n + m + 1, ⟨(o.cells.drop off).take (n * k) ++ new, e, k, 0, false⟩, by simp, by simp [aNew], rfl, rfl, rfl, rfl, ?_, ?_⟩⟩, by simp [aNew], fun i hi _ => by rw [aNew, List.getElem?_append_left hi], .inr ⟨rfl, by simp [aNew]⟩⟩
      · rw [h7']; simp
      · rw [h7', List.drop_zero, List.take_length]
    · rw [if_neg hc, if_pos ⟨h5, h4, h3⟩]
      refine ⟨_, _, rfl, ⟨hlen, .inr ⟨i, 0, g + 1, n + m + 1, { o with cells := (o.cells.drop off).take (n * k) ++ new, gen := g + 1 }, rfl, ?_, rfl, h3, h4, h5, ?_, ?_⟩⟩, by simp, fun j hj hu => ?_, .inl rfl⟩
      · rw [List.getElem?_set_self hi]
      · rw [h7']; simp
      · rw [h7', List.drop_zero, List.take_length]
      · rw [List.getElem?_set_ne]
        rintro rfl
        exact hu rfl
end
structure RowsK (k : Nat) (G : AH) (eo ei : TypeId) (u : Value) (n : Nat) (C : List Value) (F : List (List Value)) : Prop where
  out : OwnK k G eo u n C
  len : C.length = F.length
  row : ∀ (k : Nat) (c : Value) (xs : List Value), C[k]? = some c → F[k]? = some xs → Own G 0 ei c xs
  apart : ∀ (j k : Nat) (c d : Value) (i : Nat), j < k → C[j]? = some c → C[k]? = some d → idOf c = some i → idOf d ≠ some i
  inner : ∀ c ∈ C, ∀ i, idOf c = some i → idOf u ≠ some i
theorem RowsK.at {k : Nat} {G G' : AH} {eo ei : TypeId} {u : Value} {n : Nat} {C : List Value} {F : List (List Value)} (h : RowsK k G eo ei u n C F) (a : ∀ i, i ∈ ids u ++ C.flatMap ids → G'[i]? = G[i]?) : RowsK k G' eo ei u n C F where
  out := h.out.at fun i hi => a i (List.mem_append_left _ (mem_ids.2 hi))
  len := h.len
  row := fun k c xs hc hx => (h.row k c xs hc hx).at fun i hi => a i (List.mem_append_right _ (List.mem_flatMap.2 ⟨c, List.mem_of_getElem? hc, mem_ids.2 hi⟩))
  apart := h.apart
  inner := h.inner
structure RowsKH (k : Nat) (G : AH) (eo ei : TypeId) (u : Value) (n : Nat) (C : List Value) (F : List (List Value)) (m : Nat) : Prop where
  out : OwnK k G eo u n C
  len : C.length = F.length
  row : ∀ (k : Nat) (c : Value) (xs : List Value), k ≠ m → C[k]? = some c → F[k]? = some xs → Own G 0 ei c xs
  apart : ∀ (j k : Nat) (c d : Value) (i : Nat), j < k → C[j]? = some c → C[k]? = some d → idOf c = some i → idOf d ≠ some i
  inner : ∀ c ∈ C, ∀ i, idOf c = some i → idOf u ≠ some i
theorem RowsKH.at {k : Nat} {G G' : AH} {eo ei : TypeId} {u : Value} {n : Nat} {C : List Value} {F : List (List Value)} {m : Nat} (h : RowsKH k G eo ei u n C F m) (a : ∀ i, i ∈ ids u ++ (others C m).flatMap ids → G'[i]? = G[i]?) : RowsKH k G' eo ei u n C F m where
  out := h.out.at fun i hi => a i (List.mem_append_left _ (mem_ids.2 hi))
  len := h.len
  row := fun k c xs hk hc hx => (h.row k c xs hk hc hx).at fun i hi => a i (List.mem_append_right _ (List.mem_flatMap.2 ⟨c, mem_others.2 ⟨k, hk, hc⟩, mem_ids.2 hi⟩))
  apart := h.apart
  inner := h.inner
abbrev PL := List Int × List Int
def pr2 (p : PL) : List (List Value) := [ints p.1, ints p.2]
def pc (C : List Value) (n : Int) (f : Nat) : Value := C.getD (n.toNat * 2 + f) nilV
section
variable {P : Program} {G G1 H : AH} {B : Nat → Prop} {l l' : List Item} {u v c c1 c2 s : Value} {C cells new : List Value} {X : List PL} {F : List (List Value)} {t t2 e eo ei : TypeId} {j k k1 k2 m f off : Nat} {q : EInfo} {n : Int} {kk : IntKind} {a b : List Int}
structure RdP (G : AH) (v : Value) (C : List Value) (X : List PL) : Prop where
  out : SlK 2 G v X.length C
  row : ∀ (k : Nat) (c : Value) (xs : List Value), C[k]? = some c → (X.flatMap pr2)[k]? = some xs → Sl G c xs
theorem RdP.agree (h : RdP G v C X) (a : Agree G.length G G1) : RdP G1 v C X := ⟨h.out.agree a, fun k c xs hc hx => (h.row k c xs hc hx).agree a⟩
theorem RdP.nil : RdP G nilV [] [] := ⟨⟨by simp, .inl ⟨rfl, rfl⟩⟩, fun k c xs hc => by simp at hc⟩
theorem RdP.tup (h : RdP G v C X) : isTup v = false := h.out.tup
theorem RdP.one (h : RdP G v C X) : v.cells = #[v] := h.out.one
theorem RdP.lenG (h : RdP G v C X) (he : elemT P t = some e) : aLen P G t v = some (.int .i64 (llen X)) := h.out.len he
theorem RdP.idxG (h : RdP G v C X) (he : elemT P t = some e) (hs : sizeT P e = some 2) (hi : inL X n) : aIndexAddr P G t v (.int kk n) = some (elP v (n.toNat * 2)) := by
  have := h.out.idx (kk := kk) he hs (j := n.toNat) (by unfold inL at hi; omega)
  rwa [Int.toNat_of_nonneg hi.1] at this
theorem RdP.getC (h : RdP G v C X) (hi : inL X n) (hf : f < 2) : C[n.toNat * 2 + f]? = some (pc C n f) := by
  have h0 := h.out.1
  unfold inL at hi
  have : n.toNat * 2 + f < C.length := by omega
  simp [pc, List.getD_eq_getElem?_getD, this]
theorem RdP.loadG (h : RdP G v C X) (hs : sizeT P e = some 2) (hb : aggT P e = some true) (hi : inL X n) : aLoad P G e (elP v (n.toNat * 2)) = some (.agg #[pc C n 0, pc C n 1]) := by
  have h1 := h.getC hi (f := 0) (by omega)
  have h2 := h.getC hi (f := 1) (by omega)
  rw [h.out.agg hs hb (j := n.toNat) (by unfold inL at hi; omega)]
  have : (C.drop (n.toNat * 2)).take 2 = [pc C n 0, pc C n 1] := by
    apply List.ext_getElem?
    intro i
    by_cases hi2 : i < 2
    · rw [List.getElem?_take_of_lt hi2, List.getElem?_drop]
      rcases (by omega : i = 0 ∨ i = 1) with rfl | rfl
      · rw [h1]; rfl
      · rw [h2]; rfl
    · rw [List.getElem?_eq_none (by simp; omega), List.getElem?_eq_none (by simp; omega)]
  rw [this]
end
end Go.Proofs.Ytdbflchpbhkanaa.AL
namespace Go.Proofs.Ytdbflchpbhkanaa.AL
open Go Go.RowKit
attribute [local simp] aBin' aBin aBinI aUn aNil flatV
set_option linter.unusedVariables false
set_option linter.unusedSimpArgs false
section
variable {P : Program} {nt : Nat} {env : Env} {H : AH} {Q : Exit → Env → AH → Prop} {c : Code}
def DLoop (P : Program) (nt : Nat) (c : Code) (Q : Exit → Env → AH → Prop) (env : Env) (H : AH) : Prop :=
  ∃ x env' H' k, DRun P nt c x env' H' k env H ∧ (WF H → ER H.length env → WF H' ∧ ER H'.length env' ∧ H.length ≤ H'.length) ∧ Q x env' H'
theorem DLoop.wp (h : DLoop P nt c Q env H) : DWp P nt (.loop c) Q env H := by
  obtain ⟨x, env', H', k, r, g, q⟩ := h
  refine ⟨x, env', H', AWp.loop (fun n e G => DRun P nt c x env' H' n e G) k r ?_, g, q⟩
  intro n e G r
  cases r with
  | stop hx a =>
    refine a.mono ?_
    rintro y e G ⟨rfl, rfl, rfl⟩
    cases y with
    | normal => exact absurd rfl hx
    | _ => exact ⟨rfl, rfl, rfl⟩
  | step a r =>
    refine a.mono ?_
    rintro y e G ⟨rfl, rfl, rfl⟩
    exact ⟨_, Nat.lt_succ_self _, r⟩
theorem DLoop.step (h : DWp P nt c (andThen (DLoop P nt c Q) Q) env H) : DLoop P nt c Q env H := by
  obtain ⟨x, env1, H1, a1, g1, q⟩ := h
  cases x with
  | normal =>
    obtain ⟨x2, env2, H2, k, r, g2, q2⟩ := q
    refine ⟨x2, env2, H2, k + 1, .step a1 r, fun a b => ?_, q2⟩
    obtain ⟨w1, r1, l1⟩ := g1 a b
    obtain ⟨w2, r2, l2⟩ := g2 w1 r1
    exact ⟨w2, r2, Nat.le_trans l1 l2⟩
  | _ => exact ⟨_, env1, H1, 0, .stop (by simp) a1, g1, q⟩
theorem DLoop.of (I : Nat → Env → AH → Prop) (n : Nat) (h0 : I n env H)
    (round : ∀ n env H, I n env H → DWp P nt c (andThen (fun env' H' => ∃ m, m < n ∧ I m env' H') Q) env H) : DLoop P nt c Q env H := by
  have key : ∀ n env H, I n env H → DLoop P nt c Q env H := by
    intro n
    induction n using Nat.strongRecOn with
    | _ n ih =>
      intro env H hI
      refine DLoop.step ((round n env H hI).mono fun x e G q => ?_)
      cases x with
      | normal =>
        obtain ⟨m, hm, hI'⟩ := q
        exact ih m hm e G hI'
      | _ => exact q
  exact key n env H h0
end
section
variable {P : Program} {G H : AH} {t e : TypeId} {v : Value} {C : List Value} {X : List (List Int)} {xs : List Int} {o : Int}
def rnV (C : List Value) (o : Int) : Value := bif ilt o 0 then .slice none 0 0 else gat nilV C o
@[simp] theorem rnV_m1 : rnV C (-1) = .slice none 0 0 := rfl
end
section
variable {P : Program} {G H : AH} {B : Nat → Prop} {l : List Item} {t t2 e : TypeId} {q : EInfo} {n : Int} {s x : Value}
theorem cap_nil (hu : P.underlying t = some (.slice e)) : aCap P t (.slice none 0 0) = some (.int .i64 0) := by simp [aCap, hu]
theorem len_nil (he : elemT P t = some e) : aLen P H t (.slice none 0 0) = some (.int .i64 0) := by
  have hu := elemT_some he
  simp [aLen, hu]
theorem slice_nil (he : elemT P t = some e) (hs : sizeT P e = some 1) : aSlice P H t (.slice none 0 0) none (some (.int .i64 0)) none = some (.slice none 0 0) :=
  aSub01 (G := H) (xs := ([] : List Int)) (f := Value.int .i64) (.inl ⟨rfl, rfl⟩) he hs ⟨by omega, by omega, by simp⟩
theorem apN_none (h : srcD P t2 = false) : aAppend P H t t2 s x = none := by
  unfold aAppend
  split
  · split
    · rw [if_neg (by rw [h]; simp)]
    · rfl
  · rfl
theorem Sep.apM {α : Type} {f : α → Value} (h : Sep G B l) (hN : Up B G.length) (he : elemT P t = some e) (hq : einfo P e = some q) (hq1 : q.size = 1) (ht : intT P t2 = true) (d : α) (hz : q.zero.cells.getD 0 default = f d) (hi : 0 < n ∧ n ≤ 4294967296) :
    ∃ v G', aApM P G t t2 (.slice none 0 0) (.int .i64 n) = some (v, G') ∧ Sep G' B (l ++ [flat v e ((lrep n d).map f)]) ∧ Agree G.length G G' ∧ isTup v = false := by
  have hm : aApM P G t t2 (.slice none 0 0) (.int .i64 n) = some (.slice (some ⟨G.length, 0, some 0⟩) n.toNat (n.toNat + 1), G ++ [⟨List.replicate n.toNat (q.zero.cells.getD 0 default), e, 1, 0, false⟩]) := by
    simp only [aApM, he, hq, hq1, ht, hi.1, hi.2, and_self, if_true, aNew]
  have h1 := (h.lit hN e (List.replicate n.toNat (q.zero.cells.getD 0 default)) (n.toNat + 1)).weak (k := l.length) (by simp; rfl)
  refine ⟨_, _, hm, ?_, Agree.app _ _, rfl⟩
  have e1 : (lrep n d).map f = List.replicate n.toNat (q.zero.cells.getD 0 default) := by rw [hz]; simp [lrep]
  rw [e1]
  simpa using h1
theorem SlSl.two {v v1 v2 : Value} {x1 x2 : List Int} (h : Sl G v [v1, v2]) (h1 : Sl G v1 (ints x1)) (h2 : Sl G v2 (ints x2)) : SlSl G v (List.map ints [x1, x2]) :=
  ⟨[v1, v2], h, rfl, fun k c xs hc hx => by
    match k, hc, hx with
    | 0, hc, hx => simp at hc hx; subst hc hx; exact h1
    | 1, hc, hx => simp at hc hx; subst hc hx; exact h2
    | k + 2, hc, hx => simp at hc⟩
end
end Go.Proofs.Ytdbflchpbhkanaa.AL
namespace Go.Proofs.Ytdbflchpbhkanaa.AL
open Go Go.RowKit
attribute [local simp] aBin' aBin aBinI aUn aNil flatV
set_option linter.unusedVariables false
set_option linter.unusedSimpArgs false
structure RowsS (G : AH) (eo ei : TypeId) (u : Value) (D C : List Value) (F : List (List Value)) : Prop where
  out : Own G 0 eo u D
  dlen : D.length = C.length
  len : C.length = F.length
  row : ∀ (k : Nat) (c : Value) (xs : List Value), C[k]? = some c → F[k]? = some xs → Own G 0 ei c xs
  apart : ∀ (j k : Nat) (c d : Value) (i : Nat), j < k → C[j]? = some c → C[k]? = some d → idOf c = some i → idOf d ≠ some i
  inner : ∀ c ∈ C, ∀ i, idOf c = some i → idOf u ≠ some i
theorem RowsS.at {G G' : AH} {eo ei : TypeId} {u : Value} {D C : List Value} {F : List (List Value)} (h : RowsS G eo ei u D C F) (a : ∀ i, i ∈ ids u ++ C.flatMap ids → G'[i]? = G[i]?) : RowsS G' eo ei u D C F where
  out := h.out.at fun i hi => a i (List.mem_append_left _ (mem_ids.2 hi))
  dlen := h.dlen
  len := h.len
  row := fun k c xs hc hx => (h.row k c xs hc hx).at fun i hi => a i (List.mem_append_right _ (List.mem_flatMap.2 ⟨c, List.mem_of_getElem? hc, mem_ids.2 hi⟩))
  apart := h.apart
  inner := h.inner
section
variable {β : Type} {fr : β → List Value} {X : List β} {P : Program} {G G1 H : AH} {B : Nat → Prop} {l : List Item} {u v : Value} {C D : List Value} {F : List (List Value)} {t e eo ei : TypeId} {j k : Nat} {a b : Int}
def RdB (B : Nat → Prop) (H : AH) (v : Value) (F : List (List Value)) : Prop := ∃ C, RdC H v C F ∧ (∀ i, idOf v = some i → ¬ B i) ∧ ∀ c ∈ C, ∀ i, idOf c = some i → ¬ B i
theorem RdC.agr (h : RdC H v C F) (hv : ∀ i, idOf v = some i → ¬ B i) (hc : ∀ c ∈ C, ∀ i, idOf c = some i → ¬ B i) (a : AgB B H G) : RdC G v C F :=
  ⟨h.out.agr a hv, h.len, fun k c xs h1 h2 => (h.row k c xs h1 h2).agr a (hc c (List.mem_of_getElem? h1))⟩
theorem RdB.of {u : Value} (hk : rowsC u eo ei C F = rowsC u eo ei C F) (r : RdC G u C F) (h : ∀ i ∈ ids u ++ C.flatMap ids, ¬ B i) : RdB B G u F :=
  ⟨C, r, fun i hi => h i (List.mem_append_left _ (mem_ids.2 hi)), fun c hc i hi => h i (List.mem_append_right _ (List.mem_flatMap.2 ⟨c, hc, mem_ids.2 hi⟩))⟩
end
end Go.Proofs.Ytdbflchpbhkanaa.AL
namespace Go.Proofs.Ytdbflchpbhkanaa.AL
open Go Go.RowKit
attribute [local simp] aBin' aBin aBinI aUn aNil flatV
set_option linter.unusedVariables false
set_option linter.unusedSimpArgs false
structure RowsTK (k : Nat) (G : AH) (eo ei : TypeId) (u : Value) (n : Nat) (C : List Value) (F : List (List Value)) (b : Nat) : Prop where
  out : OwnK k G eo u n C
  len : C.length = F.length
  row : ∀ (m : Nat) (c : Value) (xs : List Value), b ≤ m → C[m]? = some c → F[m]? = some xs → Own G 0 ei c xs
  apart : ∀ (j m : Nat) (c d : Value) (i : Nat), b ≤ j → j < m → C[j]? = some c → C[m]? = some d → idOf c = some i → idOf d ≠ some i
  inner : ∀ (m : Nat) (c : Value), b ≤ m → C[m]? = some c → ∀ i, idOf c = some i → idOf u ≠ some i
theorem mem_dropI {C : List Value} {b : Nat} {c : Value} : c ∈ C.drop b ↔ ∃ m, b ≤ m ∧ C[m]? = some c := by
  constructor
  · intro h
    obtain ⟨m, hm⟩ := List.getElem?_of_mem h
    rw [List.getElem?_drop] at hm
    exact ⟨b + m, by omega, hm⟩
  · rintro ⟨m, hm, hc⟩
    refine List.mem_of_getElem? (i := m - b) ?_
    rw [List.getElem?_drop, show b + (m - b) = m by omega, hc]
theorem RowsTK.at {k : Nat} {G G' : AH} {eo ei : TypeId} {u : Value} {n : Nat} {C : List Value} {F : List (List Value)} {b : Nat} (h : RowsTK k G eo ei u n C F b) (a : ∀ i, i ∈ ids u ++ (C.drop b).flatMap ids → G'[i]? = G[i]?) : RowsTK k G' eo ei u n C F b where
  out := h.out.at fun i hi => a i (List.mem_append_left _ (mem_ids.2 hi))
  len := h.len
  row := fun m c xs hm hc hx => (h.row m c xs hm hc hx).at fun i hi => a i (List.mem_append_right _ (List.mem_flatMap.2 ⟨c, mem_dropI.2 ⟨m, hm, hc⟩, mem_ids.2 hi⟩))
  apart := h.apart
  inner := h.inner
section
variable {β : Type} {fr : β → List Value} {X : List β} {Y : List PL} {P : Program} {G G1 H : AH} {B : Nat → Prop} {l : List Item} {u v c : Value} {C : List Value} {F : List (List Value)} {xs : List Value} {t e eo ei : TypeId} {k j kk b n : Nat} {y z : Int} {ki : IntKind}
theorem Own.k1 (h : Own G 0 e u C) : OwnK 1 G e u C.length C := by
  refine ⟨by omega, ?_⟩
  rcases h with ⟨rfl, rfl⟩ | ⟨i, off, g, c, o, _, rfl, h1, h2, h3, h4, h5, h6, h7⟩
  · exact .inl ⟨rfl, rfl⟩
  · exact .inr ⟨i, off, g, c, o, rfl, h1, h2, h3, h4, h5, h6, h7⟩
end
end Go.Proofs.Ytdbflchpbhkanaa.AL
