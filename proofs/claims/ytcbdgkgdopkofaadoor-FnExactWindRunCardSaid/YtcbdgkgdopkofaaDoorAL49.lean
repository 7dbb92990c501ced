/- AL, part 49: pairs of rows that are kept and only read from then on; a list of pairs whose cells are told, not what they hold. No condition. -/
import Derived.Test.YtcbdgkgdopkofaaDoorALD
namespace Go.Proofs.YtcbdgkgdopkofaaDoor.AL
open Go Go.RowKit
set_option linter.unusedVariables false
set_option linter.unusedSimpArgs false
def bag (D : List Value) (Y : List PL) : Item := ⟨fun G F => D.length = Y.length * 2 ∧ (∀ (k : Nat) (c : Value) (xs : List Value), D[k]? = some c → (Y.flatMap pr2)[k]? = some xs → Sl G c xs) ∧ F = D.flatMap ids, fun G G' F h ⟨a, b, c⟩ => by
  subst c
  exact ⟨a, fun k d xs hd hx => (b k d xs hd hx).at fun i hi => h i (List.mem_flatMap.2 ⟨d, List.mem_of_getElem? hd, mem_ids.2 hi⟩), rfl⟩⟩
section
variable {P : Program} {G G1 H : AH} {B : Nat → Prop} {l : List Item} {u v s c1 c2 : Value} {X Y : List PL} {C D : List Value} {t t2 e ei : TypeId} {j k k1 k2 n : Nat} {q : EInfo} {a b : List Int}
theorem Sep.bagNil (h : Sep G B l) (hN : Up B G.length) : Sep G B (l ++ [bag [] []]) :=
  h.app (B' := Fr G) (Agree.refl _ _) ⟨fun _ => [], fun k jt hk => by
    cases k with
    | zero => simp at hk; subst hk; exact ⟨⟨rfl, fun k c xs hc => by simp at hc, rfl⟩, fun i hi => by simp at hi⟩
    | succ k => simp at hk, fun j k hj hk hjk i hi => by simp at hi⟩ (fun _ h => h) hN
theorem Sep.bagPut (h : Sep G B l) (d1 : j ≠ k1) (d2 : j ≠ k2) (d3 : k1 ≠ k2) (hj : l[j]? = some (bag D Y)) (hk1 : l[k1]? = some (flat c1 ei (ints a))) (hk2 : l[k2]? = some (flat c2 ei (ints b))) :
    Sep G B (((l.set j (bag (D ++ [c1, c2]) (Y ++ [(a, b)]))).set k1 emp).set k2 emp) := by
  have jl := (List.getElem?_eq_some_iff.1 hj).1
  have h1 := h.join d1 hj hk1
  have hj1 : ((l.set j (star (bag D Y) (flat c1 ei (ints a)))).set k1 emp)[j]? = some (star (bag D Y) (flat c1 ei (ints a))) := by
    rw [List.getElem?_set_ne (fun e => d1 e.symm), List.getElem?_set_self jl]
  have hk2' : ((l.set j (star (bag D Y) (flat c1 ei (ints a)))).set k1 emp)[k2]? = some (flat c2 ei (ints b)) := by
    rw [List.getElem?_set_ne d3, List.getElem?_set_ne d2, hk2]
  have h2 := h1.join d2 hj1 hk2'
  have hj2 : ((((l.set j (star (bag D Y) (flat c1 ei (ints a)))).set k1 emp).set j (star (star (bag D Y) (flat c1 ei (ints a))) (flat c2 ei (ints b)))).set k2 emp)[j]? = some (star (star (bag D Y) (flat c1 ei (ints a))) (flat c2 ei (ints b))) := by
    rw [List.getElem?_set_ne (fun e => d2 e.symm), List.getElem?_set_self (by simpa using jl)]
  have h3 := h2.turn (it' := bag (D ++ [c1, c2]) (Y ++ [(a, b)])) hj2 fun A ⟨A0, A3, eA, ⟨A1, A2, eB, ⟨r1, r2, r3⟩, ⟨x1, x1'⟩, dd1⟩, ⟨x2, x2'⟩, dd2⟩ => by
    subst r3 x1' x2' eB eA
    refine ⟨(D ++ [c1, c2]).flatMap ids, ⟨by simp; omega, fun m x xs hx hy => ?_, rfl⟩, fun i hi => by simpa [List.flatMap_append] using hi⟩
    have hF : (Y ++ [(a, b)]).flatMap pr2 = Y.flatMap pr2 ++ [ints a, ints b] := by simp [pr2]
    have hCF : (Y.flatMap pr2).length = D.length := by rw [pr2_len, r1]
    rw [hF] at hy
    have hlm : m < D.length + 2 := by have := (List.getElem?_eq_some_iff.1 hx).1; simpa using this
    by_cases hm : m < D.length
    · rw [List.getElem?_append_left hm] at hx
      rw [List.getElem?_append_left (by omega)] at hy
      exact r2 m x xs hx hy
    · rw [List.getElem?_append_right (by omega)] at hx
      rw [List.getElem?_append_right (by omega)] at hy
      rcases (by omega : m = D.length ∨ m = D.length + 1) with rfl | rfl
      · rw [Nat.sub_self] at hx
        rw [hCF, Nat.sub_self] at hy
        simp at hx hy
        subst hx hy
        exact x1.sl
      · rw [show D.length + 1 - D.length = 1 by omega] at hx
        rw [hCF, show D.length + 1 - D.length = 1 by omega] at hy
        simp at hx hy
        subst hx hy
        exact x2.sl
  have e : ((((l.set j (star (bag D Y) (flat c1 ei (ints a)))).set k1 emp).set j (star (star (bag D Y) (flat c1 ei (ints a))) (flat c2 ei (ints b)))).set k2 emp).set j (bag (D ++ [c1, c2]) (Y ++ [(a, b)])) = ((l.set j (bag (D ++ [c1, c2]) (Y ++ [(a, b)]))).set k1 emp).set k2 emp := by
    apply List.ext_getElem?
    intro i
    simp only [List.getElem?_set]
    by_cases e1 : j = i
    · subst e1
      simp [d1.symm, d2.symm]
    · by_cases e2 : k1 = i
      · subst e2
        simp [e1, d3.symm]
      · by_cases e3 : k2 = i
        · subst e3; simp [e1]
        · simp [e1, e2, e3]
  rw [e] at h3
  exact h3
theorem Sep.bagLen (h : Sep G B l) (hk : l[k]? = some (bag D Y)) : D.length = Y.length * 2 := by
  obtain ⟨F, h1, _⟩ := h.get hk
  exact h1.1
theorem Sep.bag0 (h : Sep G B l) (hk : l[k]? = some (bag D Y)) {m : Nat} {c : Value} {y : PL} (hc : D[m * 2]? = some c) (hy : Y[m]? = some y) : Sl G c (ints y.1) := by
  obtain ⟨F, h1, _⟩ := h.get hk
  have hl := (List.getElem?_eq_some_iff.1 hy).1
  have := pr2_get Y m 0 hl (by omega)
  rw [show Y.getD m pnil = y by simp [List.getD_eq_getElem?_getD, hy]] at this
  exact h1.2.1 _ _ _ hc this
theorem Sep.bag1 (h : Sep G B l) (hk : l[k]? = some (bag D Y)) {m : Nat} {c : Value} {y : PL} (hc : D[m * 2 + 1]? = some c) (hy : Y[m]? = some y) : Sl G c (ints y.2) := by
  obtain ⟨F, h1, _⟩ := h.get hk
  have hl := (List.getElem?_eq_some_iff.1 hy).1
  have := pr2_get Y m 1 hl (by omega)
  rw [show Y.getD m pnil = y by simp [List.getD_eq_getElem?_getD, hy]] at this
  exact h1.2.1 _ _ _ hc this
theorem Sep.ownK2 (h : Sep G B l) (hk : l[k]? = some (flatK 2 u e n C)) : OwnK 2 G e u n C := by
  obtain ⟨F, h1, _⟩ := h.get hk
  exact h1.1
theorem Sep.pushK (h : Sep G B l) (hk : l[k]? = some (flatK 2 u e n C)) (hN : Up B G.length) (he : elemT P t = some e) (he2 : elemT P t2 = some e) (hq : einfo P e = some q) (hq1 : q.size = 2) (hs : SlK 2 G s 1 [c1, c2]) (hb : n + 1 ≤ 4294967296) :
    ∃ v' G', aAppend P G t t2 u s = some (v', G') ∧ Sep G' B (l.set k (flatK 2 v' e (n + 1) (C ++ [c1, c2]))) ∧ AgB B G G' ∧ isTup v' = false ∧ v'.cells = #[v'] := by
  have hd : srcD P t2 = true := by unfold srcD; rw [elemT_some he2]
  have ho := h.ownK2 hk
  obtain ⟨v', G1, a, b', c, d, e5⟩ := ho.apx (by omega) he hq hq1 hd hs (by omega) hb
  obtain ⟨G', r, s1, s2, s3⟩ := h.step (it' := flatK 2 v' e (n + 1) (C ++ [c1, c2])) hk hN (fun G' => G' = G1) fun F ⟨p, pF⟩ hF => by
    refine ⟨G1, ids v', rfl, ⟨b', rfl⟩, fun i hi => ?_, c, fun i hi hm => d i hi fun hu => hm (by rw [pF]; exact mem_ids.2 hu)⟩
    rw [mem_ids] at hi
    rcases e5 with e5 | ⟨e5, e6⟩
    · rw [pF]; exact .inl (mem_ids.2 (e5 ▸ hi))
    · rw [e5] at hi
      simp at hi
      exact .inr (by omega)
  subst r
  exact ⟨v', G', a, s1, s2, b'.sl.tup, b'.sl.one⟩
end
end Go.Proofs.YtcbdgkgdopkofaaDoor.AL
