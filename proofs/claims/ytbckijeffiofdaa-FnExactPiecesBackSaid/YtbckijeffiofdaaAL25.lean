/- AL, part 25: a call that writes what is handed to it. No condition. -/
import Derived.Test.YtbckijeffiofdaaAL24
namespace Go.Proofs.Ytbckijeffiofdaa.AL
open Go Go.RowKit
set_option linter.unusedVariables false
set_option linter.unusedSimpArgs false

theorem AgB.mono {B B' : Nat → Prop} {H G : AH} (a : AgB B' H G) (h : ∀ i, B' i → B i) : AgB B H G := ⟨a.1, fun i hi => a.2 i fun hb => hi (h i hb)⟩
theorem Sl.agr {B : Nat → Prop} {H G : AH} {v : Value} {cs : List Value} (h : Sl H v cs) (a : AgB B H G) (hd : ∀ i, idOf v = some i → ¬ B i) : Sl G v cs := h.at fun i hi => a.2 i (hd i hi)
/-- What is handed over is apart from the rest. -/
theorem Sep.frame {G : AH} {B : Nat → Prop} {l1 l2 : List Item} (h : Sep G B (l1 ++ l2)) (hB : Up B G.length) : ∃ B' : Nat → Prop, Sep G B' l1 ∧ Up B' G.length ∧ (∀ i, B' i → B i) ∧
    (∀ (k : Nat) (it : Item), l2[k]? = some it → ∃ F, it.P G F ∧ ∀ i ∈ F, ¬ B' i) ∧ ∀ G1 l1', AgB B' G G1 → Sep G1 B' l1' → Sep G1 B (l1' ++ l2) := by
  obtain ⟨F, h1, h2⟩ := h
  have g1 : ∀ (k : Nat) (it : Item), l1[k]? = some it → it.P G (F k) ∧ ∀ i ∈ F k, B i ∧ i < G.length := fun k it hk => h1 k it (by
    rw [List.getElem?_append_left (List.getElem?_eq_some_iff.1 hk).1]; exact hk)
  have g2 : ∀ (k : Nat) (it : Item), l2[k]? = some it → it.P G (F (l1.length + k)) ∧ ∀ i ∈ F (l1.length + k), B i ∧ i < G.length := fun k it hk => h1 (l1.length + k) it (by
    rw [List.getElem?_append_right (by omega), Nat.add_sub_cancel_left]; exact hk)
  have hn : ∀ k, k < l2.length → ∀ i ∈ F (l1.length + k), ¬ ((∃ j, j < l1.length ∧ i ∈ F j) ∨ G.length ≤ i) := fun k hk i hi hb => by
    rcases hb with ⟨j, hj, hm⟩ | hb
    · exact h2 j (l1.length + k) (by simp; omega) (by simp; omega) (by omega) i hm hi
    · have := (g2 k _ (List.getElem?_eq_getElem hk)).2 i hi
      omega
  refine ⟨fun i => (∃ k, k < l1.length ∧ i ∈ F k) ∨ G.length ≤ i, ⟨F, fun k it hk => ⟨(g1 k it hk).1, fun i hi => ⟨.inl ⟨k, (List.getElem?_eq_some_iff.1 hk).1, hi⟩, ((g1 k it hk).2 i hi).2⟩⟩, fun j k hj hk => h2 j k (by simp; omega) (by simp; omega)⟩, fun i hi => .inr hi, ?_, ?_, ?_⟩
  · rintro i (⟨k, hk, hi⟩ | hi)
    · exact ((g1 k _ (List.getElem?_eq_getElem hk)).2 i hi).1
    · exact hB i hi
  · exact fun k it hk => ⟨_, (g2 k it hk).1, hn k (List.getElem?_eq_some_iff.1 hk).1⟩
  · intro G1 l1' a ⟨F', k1, k2⟩
    refine ⟨fun j => if j < l1'.length then F' j else F (l1.length + (j - l1'.length)), fun j it hj => ?_, fun p q hp hq hpq i hi => ?_⟩
    · by_cases e : j < l1'.length
      · rw [List.getElem?_append_left e] at hj
        simp only [e, if_true]
        obtain ⟨s1, s2⟩ := k1 j it hj
        refine ⟨s1, fun i hi => ⟨?_, (s2 i hi).2⟩⟩
        rcases (s2 i hi).1 with ⟨m, hm, hi'⟩ | hi'
        · exact ((g1 m _ (List.getElem?_eq_getElem hm)).2 i hi').1
        · exact hB i hi'
      · rw [List.getElem?_append_right (by omega)] at hj
        simp only [e, if_false]
        obtain ⟨s1, s2⟩ := g2 _ it hj
        have hlt := (List.getElem?_eq_some_iff.1 hj).1
        refine ⟨it.loc G G1 _ (fun i hi => a.2 i (hn _ hlt i hi)) s1, fun i hi => ?_⟩
        have h3 := s2 i hi
        exact ⟨h3.1, Nat.lt_of_lt_of_le h3.2 a.1⟩
    · rw [List.length_append] at hp hq
      have key : ∀ p q, p < l1'.length → ¬ q < l1'.length → q < l1'.length + l2.length → ∀ i ∈ F' p, i ∉ F (l1.length + (q - l1'.length)) := fun p q hp hq hq2 i hi hm =>
        hn (q - l1'.length) (by omega) i hm ((k1 p _ (List.getElem?_eq_getElem hp)).2 i hi).1
      by_cases ep : p < l1'.length
      · by_cases eq : q < l1'.length
        · simp only [ep, eq, if_true] at hi ⊢
          exact k2 p q ep eq hpq i hi
        · simp only [ep, eq, if_true, if_false] at hi ⊢
          exact key p q ep eq hq i hi
      · by_cases eq : q < l1'.length
        · simp only [ep, eq, if_true, if_false] at hi ⊢
          exact fun hm => key q p eq ep hp i hm hi
        · simp only [ep, eq, if_false] at hi ⊢
          exact h2 _ _ (by simp; omega) (by simp; omega) (by omega) i hi
end Go.Proofs.Ytbckijeffiofdaa.AL
