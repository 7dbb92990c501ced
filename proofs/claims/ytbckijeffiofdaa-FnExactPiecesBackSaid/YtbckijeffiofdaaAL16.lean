/- AL, part 16: more of lists. No condition. -/
import Derived.Test.YtbckijeffiofdaaAL15
namespace Go.Proofs.Ytbckijeffiofdaa.AL
open Go Go.RowKit
set_option linter.unusedVariables false
set_option linter.unusedSimpArgs false
section
variable {P : Program} {G G0 H H' : AH} {v c : Value} {cs cells new : List Value} {t t2 e eo ei : TypeId} {N : Nat}
theorem Fresh.append {q : EInfo} {s : Value} (h : Fresh G N e v cells) (hN : N ≤ G.length) (he : elemT P t = some e) (he2 : elemT P t2 = some e) (hq : einfo P e = some q) (hq1 : q.size = 1) (hs : Sl G s new) (hb : cells.length + new.length ≤ 4294967296) :
    ∃ v' G', aAppend P G t t2 v s = some (v', G') ∧ Fresh G' N e v' (cells ++ new) ∧ G.length ≤ G'.length ∧ (∀ i, i < G.length → idOf v ≠ some i → G'[i]? = G[i]?) := by
  have hd : srcD P t2 = true := by unfold srcD; rw [elemT_some he2]
  by_cases hnew : new = []
  · subst hnew
    have hsrc : srcOf G 1 s = some ([], 0) := by
      rcases hs with ⟨rfl, _⟩ | ⟨i, off, g, c, o, rfl, h2, h3, h4, _⟩
      · rfl
      · simp at h4
        simp [srcOf, h2, h4]
    have h0 := h
    obtain ⟨i, off, g, c, o, _, rfl, h1, h2, _⟩ := h
    have hal : alive G i g = some o := by simp [alive, h1, h2]
    refine ⟨_, G, ?_, by rw [List.append_nil]; exact h0, Nat.le_refl _, fun _ _ _ => rfl⟩
    unfold aAppend
    simp only [he, hq, hq1, hd, hsrc, if_true, hal]
  · obtain ⟨v', G', h1, h2, h3, h4, _⟩ := (Own.of h).append hN he hq hq1 hd hs hnew hb
    exact ⟨v', G', h1, h2, h3, h4⟩
/-- A literal, just made. -/
theorem lit_fresh {x : Value} : Fresh (G ++ [⟨[x], e, 1, 0, false⟩]) G.length e (.slice (some ⟨G.length, 0, some 0⟩) 1 1) [x] :=
  ⟨G.length, 0, 0, 1, _, Nat.le_refl _, by simp, by simp; rfl, rfl, rfl, rfl, rfl, by simp, by simp⟩
theorem lit0_fresh : Fresh (G ++ [⟨[], e, 1, 0, false⟩]) G.length e (.slice (some ⟨G.length, 0, some 0⟩) 0 0) [] :=
  ⟨G.length, 0, 0, 0, _, Nat.le_refl _, by simp, by simp; rfl, rfl, rfl, rfl, rfl, by simp, by simp⟩
/-- One cell in front of a list: a literal, and an append. -/
theorem Sl.cons {q : EInfo} {u x : Value} (h : Sl G u cs) (he : elemT P t = some e) (he2 : elemT P t2 = some e) (hq : einfo P e = some q) (hq1 : q.size = 1) (hb : cs.length < 4294967296) :
    ∃ v' G', aAppend P (G ++ [⟨[x], e, 1, 0, false⟩]) t t2 (.slice (some ⟨G.length, 0, some 0⟩) 1 1) u = some (v', G') ∧ Sl G' v' (x :: cs) ∧ Agree G.length G G' := by
  obtain ⟨v', G', h1, h2, h3, h4⟩ := (lit_fresh (G := G) (e := e) (x := x)).append (by simp) he he2 hq hq1 (h.agree (Agree.app _ _)) (by simp; omega)
  refine ⟨v', G', h1, h2.sl, fun i hi => ?_⟩
  rw [h4 i (by simp; omega) (by simp [idOf]; omega), List.getElem?_append_left hi]
theorem Sl.tail {x : Value} (h : Sl H v (x :: cs)) (he : elemT P t = some e) (hs : sizeT P e = some 1) : ∃ u, aSlice P H t v (some (.int .i64 1)) none none = some u ∧ Sl H u cs := by
  rcases h with ⟨_, h⟩ | ⟨i, off, g, c, o, rfl, h2, h3, h4, h5⟩
  · cases h
  · simp only [aSlice, h2, he, hs, idxV, h5]
    have e1 : (o.cells.drop (off + 1)).take cs.length = cs := by
      have := congrArg (List.drop 1) h3
      simpa [List.drop_take] using this
    have e2 : off + 1 + cs.length ≤ o.cells.length := by simp at h4; omega
    exact ⟨.slice (some ⟨i, off + 1, some g⟩) cs.length (if c = cs.length + 1 then cs.length else cs.length + 1), by simp [hs, h5], .inr ⟨i, off + 1, g, _, o, rfl, h2, e1, e2, h5⟩⟩
theorem SlSl.tup {F : List (List Value)} (h : SlSl H v F) : isTup v = false := by
  obtain ⟨C, h1, _⟩ := h
  exact h1.tup
/-- A literal that holds one row. -/
theorem RowsO.lit {c : Value} {xs : List Value} (hne : eo ≠ ei) (hN : N ≤ G.length) (hc : Own G N ei c xs) : RowsO (G ++ [⟨[c], eo, 1, 0, false⟩]) N eo ei (.slice (some ⟨G.length, 0, some 0⟩) 1 1) [xs] := by
  refine ⟨[c], .inr ⟨G.length, 0, 0, 1, _, hN, by simp, by simp; rfl, rfl, rfl, rfl, rfl, by simp, by simp⟩, rfl, fun k d ys hd hy => ?_, fun j k d d' i hjk hd hd' => ?_⟩
  · cases k with
    | zero =>
      simp at hd hy
      subst hd hy
      exact hc.at fun i hi => List.getElem?_append_left (hc.id_lt hi).1
    | succ k => simp at hd
  · have := (List.getElem?_eq_some_iff.1 hd').1
    simp at this
    omega
end
end Go.Proofs.Ytbckijeffiofdaa.AL
