/- AL, the parts 37, 38, 39, 40: code told on an abstract heap. No condition. -/
import Derived.Test.YtbckijeffiofdaaALC
namespace Go.Proofs.Ytbckijeffiofdaa.AL
open Go Go.RowKit
set_option linter.unusedVariables false
set_option linter.unusedSimpArgs false
structure RowsAB (k : Nat) (G : AH) (eo ei : TypeId) (u : Value) (n : Nat) (C : List Value) (F : List (List Value)) (a b : Nat) : Prop where
  out : OwnK k G eo u n C
  len : C.length = F.length
  row : ∀ (m : Nat) (c : Value) (xs : List Value), (m < a ∨ b ≤ m) → C[m]? = some c → F[m]? = some xs → Own G 0 ei c xs
  apart : ∀ (j m : Nat) (c d : Value) (i : Nat), (j < a ∨ b ≤ j) → (m < a ∨ b ≤ m) → j < m → C[j]? = some c → C[m]? = some d → idOf c = some i → idOf d ≠ some i
  inner : ∀ (m : Nat) (c : Value), (m < a ∨ b ≤ m) → C[m]? = some c → ∀ i, idOf c = some i → idOf u ≠ some i
def those (C : List Value) (a b : Nat) : List Value := C.take a ++ C.drop b
theorem mem_those {C : List Value} {a b : Nat} {c : Value} : c ∈ those C a b ↔ ∃ m, (m < a ∨ b ≤ m) ∧ C[m]? = some c := by
  unfold those
  rw [List.mem_append]
  constructor
  · rintro (h | h)
    · obtain ⟨m, hm⟩ := List.getElem?_of_mem h
      have hlt := (List.getElem?_eq_some_iff.1 hm).1
      simp at hlt
      rw [List.getElem?_take_of_lt (by omega)] at hm
      exact ⟨m, .inl (by omega), hm⟩
    · obtain ⟨m, hm⟩ := List.getElem?_of_mem h
      rw [List.getElem?_drop] at hm
      exact ⟨b + m, .inr (by omega), hm⟩
  · rintro ⟨m, hm | hm, hc⟩
    · exact .inl (List.mem_of_getElem? (i := m) (by rw [List.getElem?_take_of_lt hm, hc]))
    · exact .inr (List.mem_of_getElem? (i := m - b) (by rw [List.getElem?_drop, show b + (m - b) = m by omega, hc]))
theorem mem_ab {C : List Value} {a b i : Nat} {u : Value} : i ∈ ids u ++ (those C a b).flatMap ids ↔ idOf u = some i ∨ ∃ m c, (m < a ∨ b ≤ m) ∧ C[m]? = some c ∧ idOf c = some i := by
  rw [List.mem_append, mem_ids, List.mem_flatMap]
  constructor
  · rintro (h | ⟨c, hc, hi⟩)
    · exact .inl h
    · obtain ⟨m, hm, e⟩ := mem_those.1 hc
      exact .inr ⟨m, c, hm, e, mem_ids.1 hi⟩
  · rintro (h | ⟨m, c, hm, e, hi⟩)
    · exact .inl h
    · exact .inr ⟨c, mem_those.2 ⟨m, hm, e⟩, mem_ids.2 hi⟩
theorem RowsAB.at {k : Nat} {G G' : AH} {eo ei : TypeId} {u : Value} {n : Nat} {C : List Value} {F : List (List Value)} {a b : Nat} (h : RowsAB k G eo ei u n C F a b) (ha : ∀ i, i ∈ ids u ++ (those C a b).flatMap ids → G'[i]? = G[i]?) : RowsAB k G' eo ei u n C F a b where
  out := h.out.at fun i hi => ha i (mem_ab.2 (.inl hi))
  len := h.len
  row := fun m c xs hm hc hx => (h.row m c xs hm hc hx).at fun i hi => ha i (mem_ab.2 (.inr ⟨m, c, hm, hc, hi⟩))
  apart := h.apart
  inner := h.inner
section
variable {Y : List PL} {P : Program} {G G1 H : AH} {B : Nat → Prop} {l : List Item} {u v c c1 c2 : Value} {C : List Value} {F : List (List Value)} {xs ys : List Int} {t e eo ei : TypeId} {k kk k1 k2 a b n : Nat} {y z i j : Int} {ki : IntKind} {q : EInfo}
theorem putL {α : Type} {L new : List α} {off a len : Nat} (h : off + len ≤ L.length) (ha : a + new.length ≤ len) : ((L.take (off + a) ++ new ++ L.drop (off + a + new.length)).drop off).take len = ((L.drop off).take len).take a ++ new ++ ((L.drop off).take len).drop (a + new.length) := by
  apply List.ext_getElem?
  intro x
  simp only [List.getElem?_take, List.getElem?_drop, List.getElem?_append, List.length_append, List.length_take, List.length_drop]
  grind
theorem OwnK.put {new : List Value} {v' : Value} {m : Nat} (h : OwnK k G e u n C) (hs : sizeT P e = some k) (hm : m < n) (hv : isTup v' = false) (hc : v'.cells.toList = new) (hn : new.length = k) :
    ∃ G', aStore P G e (elP u (m * k)) v' = some G' ∧ OwnK k G' e u n (C.take (m * k) ++ new ++ C.drop (m * k + k)) ∧ G'.length = G.length ∧ ∀ i, idOf u ≠ some i → G'[i]? = G[i]? := by
  obtain ⟨h0, h⟩ := h
  have hmk : m * k + k ≤ n * k := by
    have : (m + 1) * k ≤ n * k := Nat.mul_le_mul_right k (by omega)
    rw [Nat.add_mul, Nat.one_mul] at this
    exact this
  rcases h with ⟨rfl, rfl⟩ | ⟨i, off, g, c, o, rfl, h1, h2, h3, h4, h5, h6, h7⟩
  · omega
  · have hal : alive G i g = some o := by simp [alive, h1, h2]
    have hlt := (List.getElem?_eq_some_iff.1 h1).1
    have hcs : v'.cells.size = k := by rw [← Array.length_toList, hc, hn]
    simp only [elP, aStore, hal, hs]
    rw [if_pos ⟨h5, hv, hcs, by omega⟩]
    refine ⟨_, rfl, ⟨by simp [hn]; omega, .inr ⟨i, off, g, c, _, rfl, List.getElem?_set_self hlt, h2, h3, h4, h5, by simp [hn, hc]; omega, ?_⟩⟩, by simp, fun j hne => ?_⟩
    · have hl1 : (C.take (m * k) ++ new ++ C.drop (m * k + k)).length = C.length := by simp [hn]; omega
      rw [hl1, hc]
      have := putL (L := o.cells) (new := new) (off := off) (a := m * k) (len := C.length) (by omega) (by rw [hn]; omega)
      rw [hn, h7] at this
      simpa [Nat.add_assoc, hn] using this
    · rw [List.getElem?_set_ne]
      rintro rfl
      exact hne rfl
end
end Go.Proofs.Ytbckijeffiofdaa.AL
namespace Go.Proofs.Ytbckijeffiofdaa.AL
open Go Go.RowKit
set_option linter.unusedVariables false
set_option linter.unusedSimpArgs false
def subP (u : Value) (a b : Nat) : Value := match u with
  | .slice (some ⟨i, off, some g⟩) n c => .slice (some ⟨i, off + a * 2, some g⟩) (b - a) (if c = n ∧ b = n then b - a else b - a + 1)
  | v => v
section
variable {Y : List PL} {P : Program} {G G1 H : AH} {B : Nat → Prop} {l : List Item} {u v c c1 c2 : Value} {C zs : List Value} {F F' : List (List Value)} {xs ys : List Int} {t e eo ei : TypeId} {k kk k1 k2 a b n m : Nat} {y z i j : Int} {ki : IntKind} {q : EInfo}
theorem OwnK.clear (h : OwnK 2 G e u n C) (he : elemT P t = some e) (hq : einfo P e = some q) (hq1 : q.size = 2) (ha : a < n) :
    ∃ G' D, aClear P G t (subP u a n) = some (.tuple #[], G') ∧ OwnK 2 G' e u n (C.take (a * 2) ++ D) ∧ G'.length = G.length ∧ ∀ i, idOf u ≠ some i → G'[i]? = G[i]? := by
  obtain ⟨h0, h⟩ := h
  rcases h with ⟨rfl, rfl⟩ | ⟨i, off, g, c, o, rfl, h1, h2, h3, h4, h5, h6, h7⟩
  · omega
  · have hal : alive G i g = some o := by simp [alive, h1, h2]
    have hlt := (List.getElem?_eq_some_iff.1 h1).1
    have hz : (zeros q ((n - a) * 2)).length = (n - a) * 2 := by simp [zeros]
    simp only [subP, aClear, he, hal, hq, hq1]
    rw [if_neg (by omega), if_pos ⟨h5, by omega⟩]
    refine ⟨_, zeros q ((n - a) * 2), rfl, ⟨by simp [hz]; omega, .inr ⟨i, off, g, c, _, rfl, List.getElem?_set_self hlt, h2, h3, h4, h5, by simp [hz]; omega, ?_⟩⟩, by simp, fun j hne => ?_⟩
    · have := putL (L := o.cells) (new := zeros q ((n - a) * 2)) (off := off) (a := a * 2) (len := C.length) (by omega) (by omega)
      rw [hz, h7, List.drop_eq_nil_of_le (by omega : C.length ≤ a * 2 + (n - a) * 2), List.append_nil] at this
      rw [show (C.take (a * 2) ++ zeros q ((n - a) * 2)).length = C.length by simp [hz]; omega]
      exact this
    · rw [List.getElem?_set_ne]
      rintro rfl
      exact hne rfl
theorem OwnK.head (h : OwnK 2 G e u n C) (ha : a < n) : OwnK 2 G e (subP u 0 a) a (C.take (a * 2)) := by
  obtain ⟨h0, h⟩ := h
  rcases h with ⟨rfl, rfl⟩ | ⟨i, off, g, c, o, rfl, h1, h2, h3, h4, h5, h6, h7⟩
  · omega
  · refine ⟨by simp; omega, .inr ⟨i, off, g, _, o, by simp [subP]; rfl, h1, h2, h3, h4, h5, by simp; omega, ?_⟩⟩
    rw [← h7, List.take_take]
    congr 1
    simp
    omega
end
end Go.Proofs.Ytbckijeffiofdaa.AL
namespace Go.Proofs.Ytbckijeffiofdaa.AL
open Go Go.RowKit
set_option linter.unusedVariables false
set_option linter.unusedSimpArgs false
section
variable {β : Type} {fr : β → List Value} {X : List β} {d : β} {P : Program} {G G1 H : AH} {B : Nat → Prop} {l : List Item} {u v c c1 : Value} {C zs : List Value} {F F' : List (List Value)} {xs : β} {t e eo ei : TypeId} {k kk k1 k2 a b n m : Nat} {y z i j : Int} {ki : IntKind} {q : EInfo}
end
end Go.Proofs.Ytbckijeffiofdaa.AL
namespace Go.Proofs.Ytbckijeffiofdaa.AL
open Go Go.RowKit
set_option linter.unusedVariables false
set_option linter.unusedSimpArgs false
theorem c_bytes {P : Program} {G : AH} {s e : TypeId} {v : Value} {xs : List Int} (hs : P.underlying s = some (.slice e)) (he : P.underlying e = some (.int .u8)) (hd : P.underlying 9 = some .string) (h : Sl G v (u8s xs)) : aConvert P G s 9 v = some (.string (bstr xs)) := by
  unfold aConvert
  unfold u8s at h
  simp only [hs, hd]
  rcases h with ⟨rfl, h0⟩ | ⟨i, off, g, c, o, rfl, h2, h3, h4, h5⟩
  · have hx : xs = [] := by simpa using h0
    subst hx
    simp [aBytes, he, bstr]
  · simp only [if_true, aBytes, he, h2]
    rw [if_pos h4, h3, unU8_map]
    rfl
theorem bstr_snoc {xs : List Int} {x : Int} : bstr (xs ++ [x]) = (bstr xs).push (UInt8.ofNat x.toNat) := by simp [bstr]
theorem Bx.later {G G1 : AH} {B : Nat → Prop} {p : Value} {cells : List Value} (h : ∃ F, (AL.box p cells).P G F ∧ ∀ i ∈ F, ¬ B i) (a : AgB B G G1) : Bx G1 p cells := by
  obtain ⟨F, ⟨i, ⟨e, o, b, c⟩, rfl⟩, h2⟩ := h
  exact ⟨i, e, o, (a.2 i (h2 i (by simp))).trans b, c⟩
end Go.Proofs.Ytbckijeffiofdaa.AL
