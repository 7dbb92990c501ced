/- Copies of pairs, comparisons, the merge distance. No condition. -/
import Derived.Test.YtdghlhdpcmemjaaFB18
namespace Go.Proofs.Ytdghlhdpcmemjaa.AL
open Go Go.Proofs.Ytdghlhdpcmemjaa.Arch
set_option linter.unusedVariables false
set_option linter.unusedSimpArgs false
set_option maxRecDepth 4096

theorem zero38 : zeroT Try.prog 38 = some (.agg #[.slice none 0 0, .slice none 0 0]) := by kernel_rfl
theorem alloc38 {H : AH} : aAlloc Try.prog H 38 = some (H ++ [⟨[.slice none 0 0, .slice none 0 0], 38, 1, 0, false⟩]) := by
  simp [aAlloc, zero38, constV, Value.cells, aNew]
/-- A box that holds a pair and may be written. -/
structure MboxW (G : AH) (i : Nat) (a b : Value) : Prop where
  ex : ∃ o, G[i]? = some o ∧ o.gen = 0 ∧ o.cells = [a, b] ∧ o.ro = false
section
variable {G H : AH} {i n : Nat} {a b u v : Value}
theorem MboxW.m (h : MboxW G i a b) : Mbox G i a b := by
  obtain ⟨o, h1, h2, h3, _⟩ := h.ex
  exact ⟨⟨o, h1, h2, h3⟩⟩
theorem MboxW.new {e : TypeId} : MboxW (H ++ [⟨[a, b], e, 1, 0, false⟩]) H.length a b := ⟨⟨_, by simp; rfl, rfl, rfl, rfl⟩⟩
theorem MboxW.at (h : MboxW G i a b) (e : H[i]? = G[i]?) : MboxW H i a b := by
  obtain ⟨o, h1, h2⟩ := h.ex
  exact ⟨⟨o, by rw [e, h1], h2⟩⟩
theorem MboxW.st0 (h : MboxW G i a b) (ht : isTup u = false) (hc : u.cells = #[u]) : ∃ G', aStore Try.prog G 22 (ptrAt i 0 0) u = some G' ∧ MboxW G' i u b ∧ G'.length = G.length ∧ ∀ j, j ≠ i → G'[j]? = G[j]? := by
  obtain ⟨o, h1, h2, h3, h4⟩ := h.ex
  have hlt := (List.getElem?_eq_some_iff.1 h1).1
  refine ⟨G.set i { o with cells := [u, b] }, ?_, ⟨⟨_, List.getElem?_set_self hlt, h2, rfl, h4⟩⟩, by simp, fun j hj => List.getElem?_set_ne (fun e => hj e.symm)⟩
  simp [aStore, ptrAt, alive, h1, h2, h3, h4, size22, ht, hc]
theorem MboxW.st1 (h : MboxW G i a b) (ht : isTup u = false) (hc : u.cells = #[u]) : ∃ G', aStore Try.prog G 22 (ptrAt i 1 0) u = some G' ∧ MboxW G' i a u ∧ G'.length = G.length ∧ ∀ j, j ≠ i → G'[j]? = G[j]? := by
  obtain ⟨o, h1, h2, h3, h4⟩ := h.ex
  have hlt := (List.getElem?_eq_some_iff.1 h1).1
  refine ⟨G.set i { o with cells := [a, u] }, ?_, ⟨⟨_, List.getElem?_set_self hlt, h2, rfl, h4⟩⟩, by simp, fun j hj => List.getElem?_set_ne (fun e => hj e.symm)⟩
  simp [aStore, ptrAt, alive, h1, h2, h3, h4, size22, ht, hc]
theorem MboxW.st (h : MboxW G i a b) : ∃ G', aStore Try.prog G 38 (ptrAt i 0 0) (.agg #[u, v]) = some G' ∧ MboxW G' i u v ∧ G'.length = G.length ∧ ∀ j, j ≠ i → G'[j]? = G[j]? := by
  obtain ⟨o, h1, h2, h3, h4⟩ := h.ex
  have hlt := (List.getElem?_eq_some_iff.1 h1).1
  refine ⟨G.set i { o with cells := [u, v] }, ?_, ⟨⟨_, List.getElem?_set_self hlt, h2, rfl, h4⟩⟩, by simp, fun j hj => List.getElem?_set_ne (fun e => hj e.symm)⟩
  simp [aStore, ptrAt, alive, h1, h2, h3, h4, size38, Value.cells]
end

theorem toMeander (H : AH) (a b : Value) (xs ys : List Int) (ha : Sl H a (ints xs)) (hb : Sl H b (ints ys)) (hx : xs.length ≤ 1048576) (hy : ys.length ≤ 1048576) :
    ACall Try.prog 27 [.agg #[a, b]] H (.agg #[mkL H.length xs.length, mkL (H.length + 1) ys.length]) (H ++ [objL 3 (ints xs), objL 3 (ints ys)]) := by
  have key := ACall.two (P := Try.prog) (f := 27) (args := [.agg #[a, b]]) (H := H) (nt := 13) (rs := [.cell 2 38]) (e := 3) (c1 := ints xs) (c2 := ints ys) Try.func27 rfl rfl rfl rfl ints_plain ints_plain fun wf => ?_
  · simpa using key
  have al := alloc38 (H := H ++ [⟨[a, b], 35, 1, 0, false⟩])
  simp at al
  repeat refine AWp.seq ?_
  refine AWp.region' fun K hK => ?_
  simp [Value.cells, aNew, al]
  apply hK
  clear hK K
  simp only [andThen]
  have mb := Mbox.new (H := H) (a := a) (b := b) (e := 35)
  have ag : Agree H.length H (H ++ [⟨[a, b], 35, 1, 0, false⟩]) := Agree.app _ _
  have m2 := MboxW.new (H := H ++ [⟨[a, b], 35, 1, 0, false⟩]) (a := .slice none 0 0) (b := .slice none 0 0) (e := 38)
  have ag2 : Agree (H ++ [⟨[a, b], 35, 1, 0, false⟩] : AH).length (H ++ [⟨[a, b], 35, 1, 0, false⟩]) ((H ++ [⟨[a, b], 35, 1, 0, false⟩]) ++ [⟨[.slice none 0 0, .slice none 0 0], 38, 1, 0, false⟩]) := Agree.app _ _
  replace mb := mb.agree ag2 (by simp)
  replace ag := ag.trans ag2 (by simp)
  clear ag2
  simp only [List.append_assoc, List.cons_append, List.nil_append, List.length_append, List.length_cons, List.length_nil, Nat.zero_add] at m2 ag mb
  have hlG : (H ++ [⟨[a, b], 35, 1, 0, false⟩, ⟨[.slice none 0 0, .slice none 0 0], 38, 1, 0, false⟩] : AH).length = H.length + 2 := by simp
  generalize H ++ [⟨[a, b], 35, 1, 0, false⟩, ⟨[.slice none 0 0, .slice none 0 0], 38, 1, 0, false⟩] = G at *
  have m3 := MboxW.new (H := G) (a := .slice none 0 0) (b := .slice none 0 0) (e := 38)
  have agG : Agree G.length G (G ++ [⟨[.slice none 0 0, .slice none 0 0], 38, 1, 0, false⟩]) := Agree.app _ _
  repeat refine AWp.seq ?_
  refine AWp.region' fun K hK => ?_
  simp [alloc38]
  apply hK
  clear hK K
  simp only [andThen]
  have hlG3 : (G ++ [⟨[.slice none 0 0, .slice none 0 0], 38, 1, 0, false⟩] : AH).length = H.length + 3 := by simp [hlG]
  rw [hlG] at m3
  rw [hlG]
  generalize G ++ [⟨[.slice none 0 0, .slice none 0 0], 38, 1, 0, false⟩] = G3 at *
  replace mb := mb.agree agG (by omega)
  replace m2 := m2.at (agG (H.length + 1) (by omega))
  replace ag := ag.trans agG (by omega)
  -- the first list
  repeat refine AWp.seq ?_
  refine AWp.region' fun K hK => ?_
  simp [mb.f0L, mb.l0, ha.tup]
  refine CallK.det (toIntS G3 a xs (ha.agree ag) hx) ?_
  have f1 := mkL_fresh (H := G3) (L := []) (xs := xs)
  have a3 : Agree G3.length G3 (G3 ++ [objL 3 (ints xs)]) := Agree.app _ _
  have i1 : idOf (mkL G3.length xs.length) = some G3.length := rfl
  have hl4 : (G3 ++ [objL 3 (ints xs)]).length = H.length + 4 := by simp [hlG3]
  generalize mkL G3.length xs.length = u1 at *
  generalize G3 ++ [objL 3 (ints xs)] = G4 at *
  replace mb := mb.agree a3 (by omega)
  replace m2 := m2.at (a3 (H.length + 1) (by omega))
  replace m3 := m3.at (a3 (H.length + 2) (by omega))
  obtain ⟨G5, s1, m3', l5, k5⟩ := m3.st0 f1.sl.tup f1.sl.one
  simp [m3.m.f0, s1, f1.sl.tup]
  apply hK
  clear hK K
  simp only [andThen]
  have ag5 : Agree H.length H G5 := fun i hi => by rw [k5 i (by omega), a3 i (by omega), ag i hi]
  replace mb : Mbox G5 H.length a b := by
    obtain ⟨o, z⟩ := mb.ex
    exact ⟨⟨o, by rw [k5 _ (by omega)]; exact z.1, z.2⟩⟩
  replace m2 := m2.at (k5 (H.length + 1) (by omega))
  have f1' := f1.at (H' := G5) fun i hi => k5 i (by rw [i1] at hi; simp at hi; omega)
  -- the second list
  repeat refine AWp.seq ?_
  refine AWp.region' fun K hK => ?_
  simp [mb.f1L, mb.l1, hb.tup]
  refine CallK.det (toIntS G5 b ys (hb.agree ag5) hy) ?_
  have f2 := mkL_fresh (H := G5) (L := []) (xs := ys)
  have a5 : Agree G5.length G5 (G5 ++ [objL 3 (ints ys)]) := Agree.app _ _
  have i2 : idOf (mkL G5.length ys.length) = some G5.length := rfl
  have hl6 : (G5 ++ [objL 3 (ints ys)]).length = H.length + 5 := by simp [l5, hl4]
  generalize mkL G5.length ys.length = u2 at *
  generalize G5 ++ [objL 3 (ints ys)] = G6 at *
  replace m2 := m2.at (a5 (H.length + 1) (by omega))
  replace m3' := m3'.at (a5 (H.length + 2) (by omega))
  obtain ⟨G7, s2, m3'', l7, k7⟩ := m3'.st1 f2.sl.tup f2.sl.one
  simp [m3'.m.f1, s2, f2.sl.tup]
  apply hK
  clear hK K
  simp only [andThen]
  replace m2 := m2.at (k7 (H.length + 1) (by omega))
  obtain ⟨G8, s3, m2', l8, k8⟩ := m2.st (u := u1) (v := u2)
  repeat refine AWp.seq ?_
  refine AWp.region' fun K hK => ?_
  simp [m3''.m.l, s3]
  apply hK
  clear hK K
  simp only [andThen]
  refine AWp.ret ?_
  refine ⟨.inr rfl, Agree.to_pre fun i hi => by rw [k8 i (by omega), k7 i (by omega), a5 i (by omega), ag5 i hi], u1, u2, ?_, ?_, by rw [i1, i2]; simp; omega, by simp [m2'.m.l]⟩
  · have g := f1'.at (H' := G8) fun i hi => by rw [i1] at hi; simp at hi; rw [k8 i (by omega), k7 i (by omega), a5 i (by omega)]
    obtain ⟨i, off, g, c, o, z0, z1⟩ := g
    exact ⟨i, off, g, c, o, by omega, z1⟩
  · have g := f2.at (H' := G8) fun i hi => by rw [i2] at hi; simp at hi; rw [k8 i (by omega), k7 i (by omega)]
    obtain ⟨i, off, g, c, o, z0, z1⟩ := g
    exact ⟨i, off, g, c, o, by omega, z1⟩
end Go.Proofs.Ytdghlhdpcmemjaa.AL
