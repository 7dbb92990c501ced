/- AL, part 18: copies into own lists. No condition. -/
import Derived.Test.YtdghlhdpcmemjaaAL16
namespace Go.Proofs.Ytdghlhdpcmemjaa.AL
open Go Go.RowKit
set_option linter.unusedVariables false
set_option linter.unusedSimpArgs false
theorem part_put {α : Type} {A C B new : List α} {d k : Nat} (hn : new.length = k) (hd : d + k ≤ C.length) :
    (((A ++ (C ++ B)).take (A.length + d) ++ new ++ (A ++ (C ++ B)).drop (A.length + d + k)).drop A.length).take C.length = C.take d ++ new ++ C.drop (d + k) := by
  subst hn
  have e1 : (A ++ (C ++ B)).take (A.length + d) = A ++ C.take d := by
    rw [List.take_append, List.take_append]
    simp [show d - C.length = 0 by omega]
    exact List.take_of_length_le (by omega)
  have e2 : (A ++ (C ++ B)).drop (A.length + d + new.length) = C.drop (d + new.length) ++ B := by
    rw [Nat.add_assoc, List.drop_append, List.drop_append]
    simp [show d + new.length - C.length = 0 by omega]
  rw [e1, e2, List.append_assoc, List.append_assoc, List.drop_left, ← List.append_assoc, ← List.append_assoc, List.take_left']
  simp
  omega
section
variable {P : Program} {G H : AH} {u v : Value} {cells cs : List Value} {t e : TypeId} {N : Nat}
theorem Fresh.parts (h : Fresh G N e u cells) : ∃ i off g c o A B, N ≤ i ∧ u = .slice (some ⟨i, off, some g⟩) cells.length c ∧ G[i]? = some o ∧ o.gen = g ∧ o.elem = e ∧ o.sz = 1 ∧ o.ro = false ∧ o.cells = A ++ (cells ++ B) ∧ A.length = off := by
  obtain ⟨i, off, g, c, o, h0, rfl, h1, h2, h3, h4, h5, h6, h7⟩ := h
  refine ⟨i, off, g, c, o, o.cells.take off, o.cells.drop (off + cells.length), h0, rfl, h1, h2, h3, h4, h5, ?_, by simp; omega⟩
  have e1 : o.cells.drop off = cells ++ o.cells.drop (off + cells.length) := by
    conv => lhs; rw [← List.take_append_drop cells.length (o.cells.drop off)]
    rw [h7, List.drop_drop]
  rw [← e1, List.take_append_drop]
theorem Fresh.putAt {i off g c : Nat} {o : AO} {A B new : List Value} {d k : Nat} (h0 : N ≤ i) (h1 : G[i]? = some o) (h2 : o.gen = g) (h3 : o.elem = e) (h4 : o.sz = 1) (h5 : o.ro = false) (hc : o.cells = A ++ (cells ++ B)) (hA : A.length = off) (hn : new.length = k) (hd : d + k ≤ cells.length) :
    Fresh (G.set i { o with cells := o.cells.take (off + d) ++ new ++ o.cells.drop (off + d + k) }) N e (.slice (some ⟨i, off, some g⟩) cells.length c) (cells.take d ++ new ++ cells.drop (d + k)) := by
  have hlt := (List.getElem?_eq_some_iff.1 h1).1
  have hl : (cells.take d ++ new ++ cells.drop (d + k)).length = cells.length := by simp; omega
  refine ⟨i, off, g, c, _, h0, by rw [hl], List.getElem?_set_self hlt, h2, h3, h4, h5, ?_, ?_⟩
  · rw [hl]
    simp [hc, hA]
    omega
  · rw [hl]
    subst hA
    simp only [hc]
    exact part_put hn hd
/-- A list copied to the front of an own one. -/
theorem Fresh.copyIn (h : Fresh G N e u cells) (hv : Sl G v cs) (he : elemT P t = some e) (hs : sizeT P e = some 1) (hnn : v ≠ .slice none 0 0) :
    ∃ G', aCopy P G t u v = some (.int .i64 (Nat.min cs.length cells.length : Nat), G') ∧ Fresh G' N e u (cs.take (Nat.min cs.length cells.length) ++ cells.drop (Nat.min cs.length cells.length)) ∧ G'.length = G.length ∧ ∀ i, idOf u ≠ some i → G'[i]? = G[i]? := by
  have h' := h
  obtain ⟨i, off, g, c, o, A, B, h0, rfl, h1, h2, h3, h4, h5, h6, h7⟩ := h.parts
  rcases hv with ⟨rfl, _⟩ | ⟨j, off2, g2, c2, o2, rfl, k1, k2, k3, _⟩
  · exact absurd rfl hnn
  have ha : alive G i g = some o := by simp [alive, h1, h2]
  unfold aCopy
  simp only [he, ha, k1, hs]
  have m1 : Nat.min cs.length cells.length ≤ cs.length := Nat.min_le_left _ _
  have m2 : Nat.min cs.length cells.length ≤ cells.length := Nat.min_le_right _ _
  generalize Nat.min cs.length cells.length = k at *
  by_cases hk : k = 0
  · subst hk
    rw [if_pos rfl]
    exact ⟨G, rfl, by simpa using h', rfl, fun _ _ => rfl⟩
  · rw [if_neg hk, if_pos ⟨h5, by rw [h6]; simp; omega, by omega⟩]
    have hsrc : (o2.cells.drop off2).take k = cs.take k := by
      rw [← k2, List.take_take, Nat.min_eq_left m1]
    refine ⟨_, rfl, ?_, by simp, fun j hj => List.getElem?_set_ne fun e => hj (by simp [idOf, e])⟩
    rw [hsrc]
    have := Fresh.putAt (c := c) (d := 0) (k := k) (new := cs.take k) h0 h1 h2 h3 h4 h5 h6 h7 (by simp; omega) (by omega)
    simpa using this
/-- The front of an own list copied behind itself. -/
theorem Fresh.fill {d : Nat} (h : Fresh G N e u cells) (he : elemT P t = some e) (hs : sizeT P e = some 1) (hd : d ≤ cells.length) :
    ∃ a b G', aSlice P G t u (some (.int .i64 d)) none none = some a ∧ aSlice P G t u none (some (.int .i64 d)) none = some b ∧ isTup a = false ∧ isTup b = false ∧ aCopy P G t a b = some (.int .i64 (Nat.min d (cells.length - d) : Nat), G') ∧
      Fresh G' N e u (cells.take d ++ cells.take (Nat.min d (cells.length - d)) ++ cells.drop (d + Nat.min d (cells.length - d))) ∧ G'.length = G.length ∧ ∀ i, idOf u ≠ some i → G'[i]? = G[i]? := by
  have h' := h
  obtain ⟨i, off, g, c, o, A, B, h0, rfl, h1, h2, h3, h4, h5, h6, h7⟩ := h.parts
  have ha : alive G i g = some o := by simp [alive, h1, h2]
  have hl : o.cells.length = off + cells.length + B.length := by rw [h6]; simp; omega
  have s1 : aSlice P G t (.slice (some ⟨i, off, some g⟩) cells.length c) (some (.int .i64 d)) none none = some (.slice (some ⟨i, off + d, some g⟩) (cells.length - d) (if c = cells.length then cells.length - d else cells.length - d + 1)) := by
    simp [aSlice, ha, he, hs, idxV, h4, hd]
  have s2 : ∃ c2, aSlice P G t (.slice (some ⟨i, off, some g⟩) cells.length c) none (some (.int .i64 d)) none = some (.slice (some ⟨i, off, some g⟩) d c2) := by
    simp [aSlice, ha, he, hs, idxV, h4, hd]
  obtain ⟨c2, s2⟩ := s2
  have key : ∃ G', aCopy P G t (.slice (some ⟨i, off + d, some g⟩) (cells.length - d) (if c = cells.length then cells.length - d else cells.length - d + 1)) (.slice (some ⟨i, off, some g⟩) d c2) = some (.int .i64 (Nat.min d (cells.length - d) : Nat), G') ∧
      Fresh G' N e (.slice (some ⟨i, off, some g⟩) cells.length c) (cells.take d ++ cells.take (Nat.min d (cells.length - d)) ++ cells.drop (d + Nat.min d (cells.length - d))) ∧ G'.length = G.length ∧ ∀ j, idOf (.slice (some ⟨i, off, some g⟩) cells.length c) ≠ some j → G'[j]? = G[j]? := by
    unfold aCopy
    simp only [he, ha, hs]
    have m1 : Nat.min d (cells.length - d) ≤ d := Nat.min_le_left _ _
    have m2 : Nat.min d (cells.length - d) ≤ cells.length - d := Nat.min_le_right _ _
    generalize Nat.min d (cells.length - d) = k at *
    by_cases hk : k = 0
    · subst hk
      rw [if_pos rfl]
      exact ⟨G, rfl, by simpa using h', rfl, fun _ _ => rfl⟩
    · rw [if_neg hk, if_pos ⟨h5, by omega, by omega⟩]
      have hsrc : (o.cells.drop off).take k = cells.take k := by
        rw [h6, ← h7, List.drop_left, List.take_append_of_le_length (by omega)]
      refine ⟨_, rfl, ?_, by simp, fun j hj => List.getElem?_set_ne fun e => hj (by simp [idOf, e])⟩
      rw [hsrc]
      exact Fresh.putAt (c := c) (d := d) (k := k) (new := cells.take k) h0 h1 h2 h3 h4 h5 h6 h7 (by simp; omega) (by omega)
  obtain ⟨G', k1, k2⟩ := key
  exact ⟨_, _, G', s1, s2, rfl, rfl, k1, k2⟩
end
end Go.Proofs.Ytdghlhdpcmemjaa.AL
