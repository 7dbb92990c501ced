/- AL, part 15: lists that grow and are written, rows of lists. No condition. -/
import Derived.Test.YtbckijeffiofdaaAL14
namespace Go.Proofs.Ytbckijeffiofdaa.AL
open Go Go.RowKit
set_option linter.unusedVariables false
set_option linter.unusedSimpArgs false

def idOf : Value → Option Nat
  | .slice (some ⟨i, _, _⟩) _ _ => some i
  | _ => none
/-- The first n objects stand as they were. -/
def Agree (n : Nat) (H H' : AH) : Prop := ∀ i, i < n → H'[i]? = H[i]?
theorem Agree.refl (n : Nat) (H : AH) : Agree n H H := fun _ _ => rfl
theorem Agree.trans {n m : Nat} {H H' H'' : AH} (h : Agree n H H') (k : Agree m H' H'') (hn : n ≤ m) : Agree n H H'' := fun i hi => (k i (by omega)).trans (h i hi)
theorem Agree.less {n m : Nat} {H H' : AH} (h : Agree m H H') (hn : n ≤ m) : Agree n H H' := fun i hi => h i (by omega)
theorem Agree.pre {H H' : AH} (h : H <+: H') : Agree H.length H H' := fun i hi => by
  obtain ⟨L, rfl⟩ := h
  exact List.getElem?_append_left hi
theorem Agree.app (H L : AH) : Agree H.length H (H ++ L) := Agree.pre ⟨L, rfl⟩
theorem Agree.to_pre {H H' : AH} (h : Agree H.length H H') : H <+: H' := by
  have hl : H.length ≤ H'.length := by
    by_cases h0 : H.length = 0
    · omega
    · have h1 := h (H.length - 1) (by omega)
      rw [List.getElem?_eq_getElem (by omega : H.length - 1 < H.length)] at h1
      have := (List.getElem?_eq_some_iff.1 h1).1
      omega
  refine ⟨H'.drop H.length, ?_⟩
  refine List.ext_getElem? fun i => ?_
  by_cases hi : i < H.length
  · rw [List.getElem?_append_left hi, h i hi]
  · rw [List.getElem?_append_right (by omega), List.getElem?_drop]
    congr 1
    omega
section
variable {P : Program} {G G0 H H' : AH} {v c : Value} {cs cells new : List Value} {t t2 e eo ei : TypeId} {N : Nat}
theorem Sl.id_lt (h : Sl H v cs) {i : Nat} (hi : idOf v = some i) : i < H.length := by
  rcases h with ⟨rfl, _⟩ | ⟨j, off, g, c, o, rfl, h2, _⟩
  · simp [idOf] at hi
  · simp only [idOf, Option.some.injEq] at hi
    subst hi
    exact (List.getElem?_eq_some_iff.1 (alive_some h2).1).1
theorem Sl.at (h : Sl H v cs) (a : ∀ i, idOf v = some i → H'[i]? = H[i]?) : Sl H' v cs := by
  rcases h with h | ⟨i, off, g, c, o, rfl, h2, h3⟩
  · exact .inl h
  · refine .inr ⟨i, off, g, c, o, rfl, ?_, h3⟩
    unfold alive at h2 ⊢
    rw [a i rfl]
    exact h2
theorem Sl.agree (h : Sl H v cs) (a : Agree H.length H H') : Sl H' v cs := h.at fun i hi => a i (h.id_lt hi)
def Own (H : AH) (N : Nat) (e : TypeId) (v : Value) (cs : List Value) : Prop := (v = .slice none 0 0 ∧ cs = []) ∨ Fresh H N e v cs
theorem Own.nil : Own H N e (.slice none 0 0) [] := .inl ⟨rfl, rfl⟩
theorem Own.sl (h : Own H N e v cs) : Sl H v cs := by
  rcases h with h | h
  · exact .inl h
  · exact h.sl
theorem Own.of (h : Fresh H N e v cs) : Own H N e v cs := .inr h
theorem Own.id_lt (h : Own H N e v cs) {i : Nat} (hi : idOf v = some i) : i < H.length ∧ N ≤ i ∧ ∃ o, H[i]? = some o ∧ o.elem = e := by
  refine ⟨h.sl.id_lt hi, ?_⟩
  rcases h with ⟨rfl, _⟩ | ⟨j, off, g, c, o, h0, rfl, h1, h2, h3, _⟩
  · simp [idOf] at hi
  · simp only [idOf, Option.some.injEq] at hi
    subst hi
    exact ⟨h0, o, h1, h3⟩
theorem Fresh.at (h : Fresh H N e v cs) (a : ∀ i, idOf v = some i → H'[i]? = H[i]?) : Fresh H' N e v cs := by
  obtain ⟨i, off, g, c, o, h0, rfl, h1, h2⟩ := h
  exact ⟨i, off, g, c, o, h0, rfl, by rw [a i rfl, h1], h2⟩
theorem Own.at (h : Own H N e v cs) (a : ∀ i, idOf v = some i → H'[i]? = H[i]?) : Own H' N e v cs := by
  rcases h with h | h
  · exact .inl h
  · exact .inr (h.at a)
theorem Own.less {M : Nat} (h : Own H M e v cs) (hn : N ≤ M) : Own H N e v cs := by
  rcases h with h | ⟨i, off, g, c, o, h0, h1⟩
  · exact .inl h
  · exact .inr ⟨i, off, g, c, o, by omega, h1⟩
theorem Own.append {q : EInfo} {s : Value} (h : Own G N e v cells) (hN : N ≤ G.length) (he : elemT P t = some e) (hq : einfo P e = some q) (hq1 : q.size = 1) (hd : srcD P t2 = true) (hs : Sl G s new) (hpos : new ≠ []) (hb : cells.length + new.length ≤ 4294967296) :
    ∃ v' G', aAppend P G t t2 v s = some (v', G') ∧ Fresh G' N e v' (cells ++ new) ∧ G.length ≤ G'.length ∧ (∀ i, i < G.length → idOf v ≠ some i → G'[i]? = G[i]?) ∧ (idOf v' = idOf v ∨ idOf v' = some G.length) := by
  have hsrc : srcOf G 1 s = some (new, new.length) := by
    rcases hs with ⟨rfl, rfl⟩ | ⟨i, off, g, c, o, rfl, h2, h3, h4, _⟩
    · exact absurd rfl hpos
    · simp [srcOf, h2, h4, h3]
  have hpos' : new.length ≠ 0 := by simpa using hpos
  unfold aAppend
  simp only [he, hq, hq1, hd, hsrc, if_true]
  rcases h with ⟨rfl, rfl⟩ | ⟨i, off, g, c, o, h0, rfl, h1, h2, h3, h4, h5, h6, h7⟩
  · simp only [hpos', if_false]
    rw [if_pos (by simp [LIM]; simp at hb; omega)]
    refine ⟨_, _, rfl, ⟨G.length, 0, 0, new.length + 1, _, hN, rfl, by simp [aNew]; rfl, rfl, rfl, rfl, rfl, by simp, by simp⟩, by simp [aNew], fun i hi _ => by simp [aNew, List.getElem?_append_left hi], .inr rfl⟩
  · have hal : alive G i g = some o := by simp [alive, h1, h2]
    simp only [hal, hpos', if_false]
    rw [if_pos ⟨by simpa using h6, by simpa [LIM] using hb⟩]
    split
    · refine ⟨_, _, rfl, ⟨G.length, 0, 0, cells.length + new.length + 1, _, hN, by simp, by simp [aNew]; rfl, rfl, rfl, rfl, rfl, by simp; omega, ?_⟩, by simp [aNew], fun i hi _ => by simp [aNew, List.getElem?_append_left hi], .inr rfl⟩
      simp only [Nat.mul_one, h7]
      exact List.take_of_length_le (by simp)
    · rw [if_pos ⟨h5, h4, h3⟩]
      have hlt := (List.getElem?_eq_some_iff.1 h1).1
      refine ⟨_, _, rfl, ⟨i, 0, g + 1, cells.length + new.length + 1, _, h0, by simp, List.getElem?_set_self hlt, rfl, h3, h4, h5, by simp; omega, ?_⟩, by simp, fun j hj hne => ?_, .inl rfl⟩
      · simp only [Nat.mul_one, h7]
        exact List.take_of_length_le (by simp)
      · rw [List.getElem?_set_ne]
        exact fun e => hne (by simp [idOf, e])
/-- A literal of one cell. -/
theorem aBuild_one {q : EInfo} {x : Value} (he : elemT P t = some e) (hq : einfo P e = some q) (hq1 : q.size = 1) (hx : isTup x = false) (hc : x.cells = #[x]) :
    aBuildSlice P H t 1 [(0, x)] = some (.slice (some ⟨H.length, 0, some 0⟩) 1 1, H ++ [⟨[x], e, 1, 0, false⟩]) := by
  obtain ⟨qs, qb, qz⟩ := q
  simp only at hq1
  subst hq1
  have hn : noTup [(0, x)] = true := by
    unfold noTup
    simpa using hx
  simp [aBuildSlice, he, hq, hn, fillL, zeros, hc, aNew, List.range_succ]
theorem aBuild_none {q : EInfo} (he : elemT P t = some e) (hq : einfo P e = some q) (hq1 : q.size = 1) :
    aBuildSlice P H t 0 [] = some (.slice (some ⟨H.length, 0, some 0⟩) 0 0, H ++ [⟨[], e, 1, 0, false⟩]) := by
  simp [aBuildSlice, he, hq, hq1, noTup, fillL, zeros, aNew]
/-- One cell behind a list: a literal, and an append. -/
theorem Own.push1 {q : EInfo} {x : Value} (h : Own G N e v cells) (hN : N ≤ G.length) (he : elemT P t = some e) (he2 : elemT P t2 = some e) (hq : einfo P e = some q) (hq1 : q.size = 1) (hb : cells.length < 4294967296) :
    ∃ v' G', aAppend P (G ++ [⟨[x], e, 1, 0, false⟩]) t t2 v (.slice (some ⟨G.length, 0, some 0⟩) 1 1) = some (v', G') ∧ Fresh G' N e v' (cells ++ [x]) ∧ G.length ≤ G'.length ∧ (∀ i, i < G.length → idOf v ≠ some i → G'[i]? = G[i]?) ∧ (idOf v' = idOf v ∨ ∃ i, idOf v' = some i ∧ G.length ≤ i) := by
  have hd : srcD P t2 = true := by unfold srcD; rw [elemT_some he2]
  obtain ⟨v', G', h1, h2, h3, h4, h5⟩ := (h.at (H' := G ++ [⟨[x], e, 1, 0, false⟩]) fun i hi => List.getElem?_append_left (h.sl.id_lt hi)).append (new := [x]) (by simp; omega) he hq hq1 hd (s := .slice (some ⟨G.length, 0, some 0⟩) 1 1) (Sl.new (n := 1) rfl) (by simp) (by simp; omega)
  simp at h3
  refine ⟨v', G', h1, h2, by omega, fun i hi hne => ?_, ?_⟩
  · rw [h4 i (by simp; omega) hne, List.getElem?_append_left hi]
  · rcases h5 with h5 | h5
    · exact .inl h5
    · exact .inr ⟨_, h5, by simp⟩
theorem Fresh.store {k : Nat} {x : Value} (h : Fresh G N e v cells) (hs : sizeT P e = some 1) (hk : k < cells.length) (hx : isTup x = false) (hc : x.cells = #[x]) :
    ∃ G', aStore P G e (elP v k) x = some G' ∧ Fresh G' N e v (cells.set k x) ∧ G'.length = G.length ∧ ∀ i, idOf v ≠ some i → G'[i]? = G[i]? := by
  obtain ⟨i, off, g, c, o, h0, rfl, h1, h2, h3, h4, h5, h6, h7⟩ := h
  have hal : alive G i g = some o := by simp [alive, h1, h2]
  have hlt := (List.getElem?_eq_some_iff.1 h1).1
  simp only [elP, aStore, hal, hs, hc]
  rw [if_pos ⟨h5, hx, by simp, by omega⟩]
  refine ⟨_, rfl, ⟨i, off, g, c, _, h0, by simp, List.getElem?_set_self hlt, h2, h3, h4, h5, by simp; omega, ?_⟩, by simp, fun j hne => ?_⟩
  · simp only [List.length_set]
    refine List.ext_getElem? fun j => ?_
    have h8 := fun j : Nat => congrArg (fun l : List Value => l[j]?) h7
    simp only [List.getElem?_take, List.getElem?_drop] at h8
    simp only [List.getElem?_take, List.getElem?_drop, List.getElem?_set]
    by_cases hj : j < cells.length
    · rw [if_pos hj]
      by_cases hjk : k = j
      · subst hjk
        have hm : min (off + k) o.cells.length = off + k := by omega
        rw [List.getElem?_append_left (by simp; omega), List.getElem?_append_right (by simp; omega)]
        simp [hk, hm]
      · rw [if_neg hjk]
        have h9 := h8 j
        rw [if_pos hj] at h9
        rw [← h9]
        by_cases hlo : off + j < off + k
        · rw [List.getElem?_append_left (by simp; omega), List.getElem?_append_left (by simp; omega), List.getElem?_take, if_pos hlo]
        · rw [List.getElem?_append_right (by simp; omega), List.getElem?_drop]
          congr 1
          simp
          omega
    · rw [if_neg hj, if_neg (by omega), List.getElem?_eq_none (by omega)]
  · rw [List.getElem?_set_ne]
    exact fun e => hne (by simp [idOf, e])

/-- A list of lists, to be read. -/
def SlSl (H : AH) (v : Value) (F : List (List Value)) : Prop := ∃ C, Sl H v C ∧ C.length = F.length ∧ ∀ (k : Nat) (c : Value) (xs : List Value), C[k]? = some c → F[k]? = some xs → Sl H c xs
theorem SlSl.agree {F : List (List Value)} (h : SlSl H v F) (a : Agree H.length H H') : SlSl H' v F := by
  obtain ⟨C, h1, h2, h3⟩ := h
  exact ⟨C, h1.agree a, h2, fun k c xs hc hx => (h3 k c xs hc hx).agree a⟩
theorem SlSl.nil : SlSl H (.slice none 0 0) [] := ⟨[], .nil, rfl, fun k c xs hc => by simp at hc⟩
/-- A new list of new lists, apart from each other. -/
def RowsO (H : AH) (N : Nat) (eo ei : TypeId) (v : Value) (F : List (List Value)) : Prop := ∃ C, Own H N eo v C ∧ C.length = F.length ∧ (∀ (k : Nat) (c : Value) (xs : List Value), C[k]? = some c → F[k]? = some xs → Own H N ei c xs) ∧
  ∀ (j k : Nat) (c d : Value) (i : Nat), j < k → C[j]? = some c → C[k]? = some d → idOf c = some i → idOf d ≠ some i
theorem RowsO.nil : RowsO H N eo ei (.slice none 0 0) [] := ⟨[], .nil, rfl, fun k c xs hc => by simp at hc, fun j k c d i _ hc => by simp at hc⟩
theorem RowsO.sl {F : List (List Value)} (h : RowsO H N eo ei v F) : SlSl H v F := by
  obtain ⟨C, h1, h2, h3, _⟩ := h
  exact ⟨C, h1.sl, h2, fun k c xs hc hx => (h3 k c xs hc hx).sl⟩
theorem RowsO.keep {F : List (List Value)} (h : RowsO H N eo ei v F) (a : ∀ i, N ≤ i → i < H.length → H'[i]? = H[i]?) : RowsO H' N eo ei v F := by
  obtain ⟨C, h1, h2, h3, h4⟩ := h
  have key : ∀ {e u cs}, Own H N e u cs → Own H' N e u cs := fun ho => ho.at fun i hi => a i (ho.id_lt hi).2.1 (ho.id_lt hi).1
  exact ⟨C, key h1, h2, fun k c xs hc hx => key (h3 k c xs hc hx), h4⟩
theorem RowsO.agree {F : List (List Value)} (h : RowsO H N eo ei v F) (a : Agree H.length H H') : RowsO H' N eo ei v F := h.keep fun i _ hi => a i hi
theorem get_last {C : List Value} {k : Nat} {c d : Value} (h : (C ++ [c])[k]? = some d) : (k < C.length ∧ C[k]? = some d) ∨ (k = C.length ∧ d = c) := by
  by_cases hk : k < C.length
  · rw [List.getElem?_append_left hk] at h
    exact .inl ⟨hk, h⟩
  · have := (List.getElem?_eq_some_iff.1 h).1
    simp at this
    have : k = C.length := by omega
    subst this
    simp at h
    exact .inr ⟨rfl, h.symm⟩
/-- A row more: the row was made behind the others. -/
theorem RowsO.push {q : EInfo} {F : List (List Value)} {xs : List Value} (h : RowsO G0 N eo ei v F) (hne : eo ≠ ei) (hN : N ≤ G0.length) (ha : Agree G0.length G0 G) (hl : G0.length ≤ G.length) (hc : Own G G0.length ei c xs)
    (he : elemT P t = some eo) (he2 : elemT P t2 = some eo) (hq : einfo P eo = some q) (hq1 : q.size = 1) (hb : F.length < 4294967296) :
    ∃ v' G', aAppend P (G ++ [⟨[c], eo, 1, 0, false⟩]) t t2 v (.slice (some ⟨G.length, 0, some 0⟩) 1 1) = some (v', G') ∧ RowsO G' N eo ei v' (F ++ [xs]) ∧ G.length ≤ G'.length ∧ Agree N G G' := by
  obtain ⟨C, p1, h2, p3, h4⟩ := h
  have h1 : Own G N eo v C := p1.at fun i hi => ha i (p1.id_lt hi).1
  have h3 : ∀ (k : Nat) (c : Value) (xs : List Value), C[k]? = some c → F[k]? = some xs → Own G N ei c xs := fun k c xs hc hx => (p3 k c xs hc hx).at fun i hi => ha i ((p3 k c xs hc hx).id_lt hi).1
  obtain ⟨v', G', k1, k2, k3, k4, k5⟩ := h1.push1 (t2 := t2) (x := c) (by omega : N ≤ G.length) he he2 hq hq1 (by omega)
  have inner : ∀ {u cs M}, N ≤ M → Own G M ei u cs → Own G' M ei u cs := fun hM ho => ho.at fun i hi => by
    obtain ⟨i1, i2, o, i3, i4⟩ := ho.id_lt hi
    refine k4 i i1 fun hv => ?_
    obtain ⟨_, _, o', j3, j4⟩ := h1.id_lt hv
    rw [i3] at j3
    cases j3
    exact hne (j4.symm.trans i4)
  refine ⟨v', G', k1, ⟨C ++ [c], .inr k2, by simp [h2], ?_, ?_⟩, k3, fun i hi => k4 i (by omega) fun hv => by have := (h1.id_lt hv).2.1; omega⟩
  · intro k d ys hd hy
    rcases get_last hd with ⟨hk, hd⟩ | ⟨rfl, rfl⟩
    · rw [List.getElem?_append_left (by omega)] at hy
      exact inner (Nat.le_refl _) (h3 k d ys hd hy)
    · rw [h2] at hy
      simp at hy
      subst hy
      exact inner (Nat.le_refl _) (hc.less hN)
  · intro j k d d' i hjk hd hd' hi
    rcases get_last hd' with ⟨hk, hd'⟩ | ⟨rfl, rfl⟩
    · rcases get_last hd with ⟨_, hd⟩ | ⟨rfl, rfl⟩
      · exact h4 j k d d' i hjk hd hd' hi
      · omega
    · rcases get_last hd with ⟨hj, hd⟩ | ⟨rfl, rfl⟩
      · intro hi'
        have q1 := (hc.id_lt hi').2.1
        have q2 := ((p3 j d _ hd (List.getElem?_eq_getElem (by omega : j < F.length))).id_lt hi).1
        omega
      · omega
theorem RowsO.len {F : List (List Value)} (h : RowsO H N eo ei v F) (he : elemT P t = some e) : aLen P H t v = some (.int .i64 F.length) := by
  obtain ⟨C, h1, h2, _⟩ := h
  rw [← h2]
  exact h1.sl.len he
/-- A row is written. -/
theorem row_set {F : List (List Value)} {C : List Value} {k : Nat} {xs' : List Value} (h1 : Own H N eo v C) (h2 : C.length = F.length) (h3 : ∀ (k : Nat) (c : Value) (xs : List Value), C[k]? = some c → F[k]? = some xs → Own H N ei c xs)
    (h4 : ∀ (j k : Nat) (c d : Value) (i : Nat), j < k → C[j]? = some c → C[k]? = some d → idOf c = some i → idOf d ≠ some i) (hne : eo ≠ ei) (hk : C[k]? = some c) (ha : ∀ i, idOf c ≠ some i → H'[i]? = H[i]?) (ho : Own H' N ei c xs') :
    Own H' N eo v C ∧ C.length = (F.set k xs').length ∧ ∀ (j : Nat) (d : Value) (xs : List Value), C[j]? = some d → (F.set k xs')[j]? = some xs → Own H' N ei d xs := by
  have hkl := (List.getElem?_eq_some_iff.1 hk).1
  refine ⟨h1.at fun i hi => ha i fun hc => ?_, by simpa using h2, fun j d xs hd hx => ?_⟩
  · obtain ⟨_, _, o, i3, i4⟩ := h1.id_lt hi
    obtain ⟨_, _, o', j3, j4⟩ := (h3 k c _ hk (List.getElem?_eq_getElem (by omega : k < F.length))).id_lt hc
    rw [i3] at j3
    cases j3
    exact hne (i4.symm.trans j4)
  · by_cases hj : k = j
    · subst hj
      rw [hk] at hd
      cases hd
      rw [List.getElem?_set_self (by omega)] at hx
      cases hx
      exact ho
    · rw [List.getElem?_set_ne hj] at hx
      refine (h3 j d xs hd hx).at fun i hi => ha i fun hc => ?_
      rcases Nat.lt_or_gt_of_ne hj with hlt | hlt
      · exact h4 k j c d i hlt hk hd hc hi
      · exact h4 j k d c i hlt hd hk hi hc
end
theorem take_drop_set {α : Type} {A B : List α} {k : Nat} {a : α} (hl : A.length = B.length) (ha : A[k]? = some a) : (A.take k ++ B.drop k).set k a = A.take (k + 1) ++ B.drop (k + 1) := by
  have hk := (List.getElem?_eq_some_iff.1 ha).1
  have hk2 : k < B.length := by omega
  have hm : min k A.length = k := by omega
  have hd : B.drop k = B[k] :: B.drop (k + 1) := List.drop_eq_getElem_cons hk2
  rw [List.set_append_right _ _ (by simp; omega), List.take_add_one, ha, hd, List.length_take, hm, Nat.sub_self, List.set_cons_zero]
  simp
theorem take_drop_get {α : Type} {A B : List α} {k : Nat} (hl : A.length = B.length) (hk : k < B.length) : (A.take k ++ B.drop k)[k]? = B[k]? := by
  rw [List.getElem?_append_right (by simp; omega)]
  have hm : min k A.length = k := by omega
  simp [hm]
end Go.Proofs.Ytbckijeffiofdaa.AL
