/- AL, part 33: lists whose elements are pairs of lists. No condition. -/
import Derived.Test.YtbckijeffiofdaaAL31
namespace Go.Proofs.Ytbckijeffiofdaa.AL
open Go Go.RowKit
set_option linter.unusedVariables false
set_option linter.unusedSimpArgs false
/-- A slice of n elements of k cells each that reads as a row of cells. -/
def SlK (k : Nat) (H : AH) (v : Value) (n : Nat) (cs : List Value) : Prop :=
  cs.length = n * k ∧ ((v = .slice none 0 0 ∧ n = 0) ∨ ∃ i off g c o, v = .slice (some ⟨i, off, some g⟩) n c ∧ alive H i g = some o ∧ (o.cells.drop off).take cs.length = cs ∧ off + cs.length ≤ o.cells.length ∧ o.sz = k)
/-- The same, in an object of our own. -/
def OwnK (k : Nat) (H : AH) (e : TypeId) (v : Value) (n : Nat) (cs : List Value) : Prop :=
  cs.length = n * k ∧ ((v = .slice none 0 0 ∧ n = 0) ∨ ∃ i off g c o, v = .slice (some ⟨i, off, some g⟩) n c ∧ H[i]? = some o ∧ o.gen = g ∧ o.elem = e ∧ o.sz = k ∧ o.ro = false ∧ off + cs.length ≤ o.cells.length ∧ (o.cells.drop off).take cs.length = cs)
section
variable {P : Program} {k n : Nat} {G G1 H : AH} {v : Value} {cs : List Value} {t e : TypeId}
theorem OwnK.sl (h : OwnK k H e v n cs) : SlK k H v n cs := by
  obtain ⟨h0, h⟩ := h
  refine ⟨h0, ?_⟩
  rcases h with h | ⟨i, off, g, c, o, rfl, h1, h2, h3, h4, h5, h6, h7⟩
  · exact .inl h
  · exact .inr ⟨i, off, g, c, o, rfl, by simp [alive, h1, h2], h7, h6, h4⟩
theorem OwnK.at (h : OwnK k G e v n cs) (a : ∀ i, idOf v = some i → G1[i]? = G[i]?) : OwnK k G1 e v n cs := by
  obtain ⟨h0, h⟩ := h
  refine ⟨h0, ?_⟩
  rcases h with h | ⟨i, off, g, c, o, rfl, h1, h2⟩
  · exact .inl h
  · exact .inr ⟨i, off, g, c, o, rfl, by rw [a i rfl]; exact h1, h2⟩
theorem OwnK.id_lt (h : OwnK k G e v n cs) {i : Nat} (hi : idOf v = some i) : i < G.length := by
  obtain ⟨h0, h⟩ := h
  rcases h with ⟨rfl, _⟩ | ⟨i', off, g, c, o, rfl, h1, _⟩
  · simp [idOf] at hi
  · simp [idOf] at hi
    subst hi
    exact (List.getElem?_eq_some_iff.1 h1).1
theorem OwnK.nil : OwnK k G e (.slice none 0 0) 0 [] := ⟨by simp, .inl ⟨rfl, rfl⟩⟩
theorem SlK.agree (h : SlK k G v n cs) (a : Agree G.length G G1) : SlK k G1 v n cs := by
  obtain ⟨h0, h⟩ := h
  refine ⟨h0, ?_⟩
  rcases h with h | ⟨i, off, g, c, o, rfl, h1, h2⟩
  · exact .inl h
  · obtain ⟨a1, a2⟩ := alive_some h1
    exact .inr ⟨i, off, g, c, o, rfl, by simp [alive, a i (List.getElem?_eq_some_iff.1 a1).1, a1, a2], h2⟩
theorem SlK.tup (h : SlK k H v n cs) : isTup v = false := by
  rcases h.2 with ⟨rfl, _⟩ | ⟨i, off, g, c, o, rfl, _⟩ <;> rfl
theorem SlK.one (h : SlK k H v n cs) : v.cells = #[v] := by
  rcases h.2 with ⟨rfl, _⟩ | ⟨i, off, g, c, o, rfl, _⟩ <;> rfl
theorem SlK.len (h : SlK k H v n cs) (he : elemT P t = some e) : aLen P H t v = some (.int .i64 (n : Int)) := by
  have hu := elemT_some he
  rcases h.2 with ⟨rfl, rfl⟩ | ⟨i, off, g, c, o, rfl, h2, h3⟩
  · simp [aLen, hu]
  · simp [aLen, hu, h2]
theorem SlK.idx (h : SlK k H v n cs) (he : elemT P t = some e) (hs : sizeT P e = some k) {j : Nat} (hj : j < n) {kk : IntKind} : aIndexAddr P H t v (.int kk (j : Int)) = some (elP v (j * k)) := by
  rcases h.2 with ⟨rfl, rfl⟩ | ⟨i, off, g, c, o, rfl, h2, h3⟩
  · omega
  · have : (j : Int) < (n : Int) := by omega
    simp [aIndexAddr, he, hs, h2, elP, this, hj]
theorem SlK.agg (h : SlK k H v n cs) (hs : sizeT P e = some k) (hb : aggT P e = some true) {j : Nat} (hj : j < n) : aLoad P H e (elP v (j * k)) = some (.agg ((cs.drop (j * k)).take k).toArray) := by
  obtain ⟨h0, h⟩ := h
  have hm : j * k + k ≤ n * k := by
    have : (j + 1) * k ≤ n * k := Nat.mul_le_mul_right k (by omega)
    rw [Nat.add_mul, Nat.one_mul] at this
    exact this
  rcases h with ⟨rfl, rfl⟩ | ⟨i, off, g, c, o, rfl, h2, h3, h4, _⟩
  · omega
  · simp only [elP, aLoad, h2, hs, hb]
    rw [if_pos (by omega)]
    congr 3
    rw [← h3, List.drop_take, List.take_take, List.drop_drop]
    congr 1
    omega
theorem SlK.cell (h : SlK k H v n cs) (hs : sizeT P e = some 1) (hb : aggT P e = some false) {m : Nat} {x : Value} (hk : cs[m]? = some x) : aLoad P H e (elP v m) = some x := by
  obtain ⟨h0, h⟩ := h
  have hlt := (List.getElem?_eq_some_iff.1 hk).1
  rcases h with ⟨rfl, rfl⟩ | ⟨i, off, g, c, o, rfl, h2, h3, h4, _⟩
  · omega
  · simp only [elP, aLoad, h2, hs, hb]
    rw [← h3, List.getElem?_take, if_pos hlt, List.getElem?_drop] at hk
    exact hk
theorem SlK.fld (h : SlK k H v n cs) {f off m : Nat} (hf : fldT P t f = some off) (hn : 0 < n) : aFieldAddr P H t (elP v m) f = some (elP v (m + off)) := by
  rcases h.2 with ⟨rfl, rfl⟩ | ⟨i, o2, g, c, o, rfl, h2, h3, h4, _⟩
  · omega
  · unfold fldT at hf
    unfold aFieldAddr elP
    simp only [h2]
    split at hf
    · rename_i fields hu
      simp only [hu]
      split at hf
      · rename_i fl hfl
        simp only [hfl]
        split at hf
        · rename_i hz
          simp only [hz]
          cases hf
          simp [Nat.add_assoc]
        · cases hf
      · cases hf
    · cases hf
/-- Elements behind an own list: they lie in a slice. -/
theorem OwnK.apx {q : EInfo} {s u : Value} {t2 : TypeId} {m : Nat} {cells new : List Value} (hk0 : 0 < k) (h : OwnK k G e u n cells) (he : elemT P t = some e) (hq : einfo P e = some q) (hqk : q.size = k) (hd : srcD P t2 = true) (hs : SlK k G s m new) (hm : 0 < m) (hb : n + m ≤ 4294967296) :
    ∃ v' G', aAppend P G t t2 u s = some (v', G') ∧ OwnK k G' e v' (n + m) (cells ++ new) ∧ G.length ≤ G'.length ∧ (∀ i, i < G.length → idOf u ≠ some i → G'[i]? = G[i]?) ∧ (idOf v' = idOf u ∨ idOf v' = some G.length ∧ G.length < G'.length) := by
  obtain ⟨s0, hs⟩ := hs
  obtain ⟨h0, h⟩ := h
  have hsrc : srcOf G k s = some (new, m) := by
    rcases hs with ⟨_, rfl⟩ | ⟨i, off, g, c, o, rfl, h2, h3, h4, _⟩
    · omega
    · simp only [srcOf, h2]
      rw [if_pos (by omega), ← s0, h3]
  have hm0 : ¬ m = 0 := by omega
  have hlen : (cells ++ new).length = (n + m) * k := by rw [List.length_append, h0, s0, Nat.add_mul]
  unfold aAppend
  simp only [he, hq, hqk, hd, hsrc, if_true]
  rcases h with ⟨rfl, rfl⟩ | ⟨i, off, g, c, o, rfl, h1, h2, h3, h4, h5, h6, h7⟩
  · have hc0 : cells = [] := List.eq_nil_of_length_eq_zero (by omega)
    subst hc0
    have hl : m ≤ LIM := by simp only [LIM]; omega
    simp only [hm0, hl, if_true, if_false]
    refine ⟨_, _, rfl, ⟨hlen, .inr ⟨G.length, 0, 0, m + 1, ⟨new, e, k, 0, false⟩, by simp, by simp [aNew], rfl, rfl, rfl, rfl, by simp, by simp⟩⟩, by simp [aNew], fun i hi _ => by rw [aNew, List.getElem?_append_left hi], .inr ⟨rfl, by simp [aNew]⟩⟩
  · have hal : alive G i g = some o := by simp [alive, h1, h2]
    have hi := (List.getElem?_eq_some_iff.1 h1).1
    have hfit : off + n * k ≤ o.cells.length ∧ n + m ≤ LIM := by simp only [LIM]; omega
    have h7' : (o.cells.drop off).take (n * k) = cells := by rw [← h0]; exact h7
    simp only [hal, hm0, if_false]
    rw [if_pos hfit]
    by_cases hc : c = n
    · rw [if_pos hc]
      refine ⟨_, _, rfl, ⟨hlen, .inr ⟨G.length, 0, 0, n + m + 1, ⟨(o.cells.drop off).take (n * k) ++ new, e, k, 0, false⟩, by simp, by simp [aNew], rfl, rfl, rfl, rfl, ?_, ?_⟩⟩, by simp [aNew], fun i hi _ => by rw [aNew, List.getElem?_append_left hi], .inr ⟨rfl, by simp [aNew]⟩⟩
      · rw [h7']; simp
      · rw [h7', List.drop_zero, List.take_length]
    · rw [if_neg hc, if_pos ⟨h5, h4, h3⟩]
      refine ⟨_, _, rfl, ⟨hlen, .inr ⟨i, 0, g + 1, n + m + 1, { o with cells := (o.cells.drop off).take (n * k) ++ new, gen := g + 1 }, rfl, ?_, rfl, h3, h4, h5, ?_, ?_⟩⟩, by simp, fun j hj hu => ?_, .inl rfl⟩
      · rw [List.getElem?_set_self hi]
      · rw [h7']; simp
      · rw [h7', List.drop_zero, List.take_length]
      · rw [List.getElem?_set_ne]
        rintro rfl
        exact hu rfl
end
/-- A row of elements of k cells as an item. -/
def flatK (k : Nat) (u : Value) (e : TypeId) (n : Nat) (cells : List Value) : Item := ⟨fun G F => OwnK k G e u n cells ∧ F = ids u, fun G G' F h ⟨a, b⟩ => by
  subst b
  exact ⟨a.at fun i hi => h i (mem_ids.2 hi), rfl⟩⟩
/-- A list of elements of k cells, each cell a row: the cells are C, what the rows hold is F; all apart. -/
structure RowsK (k : Nat) (G : AH) (eo ei : TypeId) (u : Value) (n : Nat) (C : List Value) (F : List (List Value)) : Prop where
  out : OwnK k G eo u n C
  len : C.length = F.length
  row : ∀ (k : Nat) (c : Value) (xs : List Value), C[k]? = some c → F[k]? = some xs → Own G 0 ei c xs
  apart : ∀ (j k : Nat) (c d : Value) (i : Nat), j < k → C[j]? = some c → C[k]? = some d → idOf c = some i → idOf d ≠ some i
  inner : ∀ c ∈ C, ∀ i, idOf c = some i → idOf u ≠ some i
theorem RowsK.at {k : Nat} {G G' : AH} {eo ei : TypeId} {u : Value} {n : Nat} {C : List Value} {F : List (List Value)} (h : RowsK k G eo ei u n C F) (a : ∀ i, i ∈ ids u ++ C.flatMap ids → G'[i]? = G[i]?) : RowsK k G' eo ei u n C F where
  out := h.out.at fun i hi => a i (List.mem_append_left _ (mem_ids.2 hi))
  len := h.len
  row := fun k c xs hc hx => (h.row k c xs hc hx).at fun i hi => a i (List.mem_append_right _ (List.mem_flatMap.2 ⟨c, List.mem_of_getElem? hc, mem_ids.2 hi⟩))
  apart := h.apart
  inner := h.inner
def rowsK (k : Nat) (u : Value) (eo ei : TypeId) (n : Nat) (C : List Value) (F : List (List Value)) : Item := ⟨fun G A => RowsK k G eo ei u n C F ∧ A = ids u ++ C.flatMap ids, fun G G' A h ⟨a, b⟩ => by
  subst b
  exact ⟨a.at h, rfl⟩⟩
/-- The same, one row taken out. -/
structure RowsKH (k : Nat) (G : AH) (eo ei : TypeId) (u : Value) (n : Nat) (C : List Value) (F : List (List Value)) (m : Nat) : Prop where
  out : OwnK k G eo u n C
  len : C.length = F.length
  row : ∀ (k : Nat) (c : Value) (xs : List Value), k ≠ m → C[k]? = some c → F[k]? = some xs → Own G 0 ei c xs
  apart : ∀ (j k : Nat) (c d : Value) (i : Nat), j < k → C[j]? = some c → C[k]? = some d → idOf c = some i → idOf d ≠ some i
  inner : ∀ c ∈ C, ∀ i, idOf c = some i → idOf u ≠ some i
theorem RowsKH.at {k : Nat} {G G' : AH} {eo ei : TypeId} {u : Value} {n : Nat} {C : List Value} {F : List (List Value)} {m : Nat} (h : RowsKH k G eo ei u n C F m) (a : ∀ i, i ∈ ids u ++ (others C m).flatMap ids → G'[i]? = G[i]?) : RowsKH k G' eo ei u n C F m where
  out := h.out.at fun i hi => a i (List.mem_append_left _ (mem_ids.2 hi))
  len := h.len
  row := fun k c xs hk hc hx => (h.row k c xs hk hc hx).at fun i hi => a i (List.mem_append_right _ (List.mem_flatMap.2 ⟨c, mem_others.2 ⟨k, hk, hc⟩, mem_ids.2 hi⟩))
  apart := h.apart
  inner := h.inner
def rowsKX (k : Nat) (u : Value) (eo ei : TypeId) (n : Nat) (C : List Value) (F : List (List Value)) (m : Nat) : Item := ⟨fun G A => RowsKH k G eo ei u n C F m ∧ A = ids u ++ (others C m).flatMap ids, fun G G' A h ⟨a, b⟩ => by
  subst b
  exact ⟨a.at h, rfl⟩⟩
/-! ### Pairs of lists of numbers -/
abbrev PL := List Int × List Int
def pr2 (p : PL) : List (List Value) := [ints p.1, ints p.2]
def rowsP (u : Value) (eo ei : TypeId) (C : List Value) (X : List PL) : Item := rowsK 2 u eo ei X.length C (X.flatMap pr2)
def rowsPX (u : Value) (eo ei : TypeId) (C : List Value) (X : List PL) (m : Nat) : Item := rowsKX 2 u eo ei X.length C (X.flatMap pr2) m
def pc (C : List Value) (n : Int) (f : Nat) : Value := C.getD (n.toNat * 2 + f) nilV
def pnil : PL := ([], [])
theorem pr2_len : ∀ X : List PL, (X.flatMap pr2).length = X.length * 2
  | [] => rfl
  | x :: X => by rw [List.flatMap_cons, List.length_append, pr2_len X, List.length_cons, Nat.add_mul]; simp [pr2]; omega
theorem pr2_get : ∀ (X : List PL) (j f : Nat), j < X.length → f < 2 → (X.flatMap pr2)[j * 2 + f]? = (pr2 (X.getD j pnil))[f]?
  | x :: X, 0, f, _, hf => by
    rw [List.flatMap_cons, List.getElem?_append_left (by simp [pr2]; omega)]
    simp
  | x :: X, j + 1, f, hj, hf => by
    rw [List.flatMap_cons, List.getElem?_append_right (by simp [pr2]; omega)]
    rw [show (j + 1) * 2 + f - (pr2 x).length = j * 2 + f by simp [pr2]; omega, pr2_get X j f (by simpa using hj) hf]
    simp
theorem pr2_set : ∀ (X : List PL) (j f : Nat) (y : PL), j < X.length → f < 2 → (∀ g, g < 2 → g ≠ f → (pr2 y)[g]? = (pr2 (X.getD j pnil))[g]?) → ((X.set j y).flatMap pr2) = (X.flatMap pr2).set (j * 2 + f) ((pr2 y).getD f []) := by
  intro X j f y hj hf hy
  apply List.ext_getElem?
  intro m
  by_cases hm : m < X.length * 2
  · have e : m = m / 2 * 2 + m % 2 := by omega
    have hq : m / 2 < X.length := by omega
    have hr : m % 2 < 2 := by omega
    rw [e, pr2_get _ _ _ (by simpa using hq) hr]
    by_cases c : m / 2 = j
    · have hg : (X.set j y).getD (m / 2) pnil = y := by rw [c]; simp [List.getD_eq_getElem?_getD, hj]
      rw [hg]
      by_cases cf : m % 2 = f
      · rw [c, cf, List.getElem?_set_self (by rw [pr2_len]; omega)]
        have : f < (pr2 y).length := by simp [pr2]; omega
        simp [List.getD_eq_getElem?_getD, this]
      · rw [List.getElem?_set_ne (by omega), pr2_get _ _ _ hq hr, c]
        exact hy _ hr cf
    · rw [List.getElem?_set_ne (by omega), pr2_get _ _ _ hq hr]
      congr 2
      simp [List.getD_eq_getElem?_getD, List.getElem?_set_ne (Ne.symm c)]
  · rw [List.getElem?_eq_none (by rw [pr2_len]; simp; omega), List.getElem?_eq_none (by rw [List.length_set, pr2_len]; omega)]
section
variable {P : Program} {G G1 H : AH} {B : Nat → Prop} {l l' : List Item} {u v c c1 c2 s : Value} {C cells new : List Value} {X : List PL} {F : List (List Value)} {t t2 e eo ei : TypeId} {j k k1 k2 m f off : Nat} {q : EInfo} {n : Int} {kk : IntKind} {a b : List Int}
/-- What can be read of it. -/
structure RdP (G : AH) (v : Value) (C : List Value) (X : List PL) : Prop where
  out : SlK 2 G v X.length C
  row : ∀ (k : Nat) (c : Value) (xs : List Value), C[k]? = some c → (X.flatMap pr2)[k]? = some xs → Sl G c xs
theorem RdP.agree (h : RdP G v C X) (a : Agree G.length G G1) : RdP G1 v C X := ⟨h.out.agree a, fun k c xs hc hx => (h.row k c xs hc hx).agree a⟩
theorem RdP.nil : RdP G nilV [] [] := ⟨⟨by simp, .inl ⟨rfl, rfl⟩⟩, fun k c xs hc => by simp at hc⟩
theorem Sep.rowsKP (h : Sep G B l) (hk : l[k]? = some (rowsP u eo ei C X)) : RowsK 2 G eo ei u X.length C (X.flatMap pr2) := by
  obtain ⟨A, h1, _⟩ := h.get hk
  exact h1.1
theorem Sep.rdP (h : Sep G B l) (hk : l[k]? = some (rowsP u eo ei C X)) : RdP G u C X :=
  have r := h.rowsKP hk
  ⟨r.out.sl, fun k c xs hc hx => (r.row k c xs hc hx).sl⟩
theorem RdP.tup (h : RdP G v C X) : isTup v = false := h.out.tup
theorem RdP.one (h : RdP G v C X) : v.cells = #[v] := h.out.one
theorem RdP.lenG (h : RdP G v C X) (he : elemT P t = some e) : aLen P G t v = some (.int .i64 (llen X)) := h.out.len he
theorem RdP.idxG (h : RdP G v C X) (he : elemT P t = some e) (hs : sizeT P e = some 2) (hi : inL X n) : aIndexAddr P G t v (.int kk n) = some (elP v (n.toNat * 2)) := by
  have := h.out.idx (kk := kk) he hs (j := n.toNat) (by unfold inL at hi; omega)
  rwa [Int.toNat_of_nonneg hi.1] at this
theorem RdP.getC (h : RdP G v C X) (hi : inL X n) (hf : f < 2) : C[n.toNat * 2 + f]? = some (pc C n f) := by
  have h0 := h.out.1
  unfold inL at hi
  have : n.toNat * 2 + f < C.length := by omega
  simp [pc, List.getD_eq_getElem?_getD, this]
theorem RdP.loadG (h : RdP G v C X) (hs : sizeT P e = some 2) (hb : aggT P e = some true) (hi : inL X n) : aLoad P G e (elP v (n.toNat * 2)) = some (.agg #[pc C n 0, pc C n 1]) := by
  have h1 := h.getC hi (f := 0) (by omega)
  have h2 := h.getC hi (f := 1) (by omega)
  rw [h.out.agg hs hb (j := n.toNat) (by unfold inL at hi; omega)]
  have : (C.drop (n.toNat * 2)).take 2 = [pc C n 0, pc C n 1] := by
    apply List.ext_getElem?
    intro i
    by_cases hi2 : i < 2
    · rw [List.getElem?_take_of_lt hi2, List.getElem?_drop]
      rcases (by omega : i = 0 ∨ i = 1) with rfl | rfl
      · rw [h1]; rfl
      · rw [h2]; rfl
    · rw [List.getElem?_eq_none (by simp; omega), List.getElem?_eq_none (by simp; omega)]
  rw [this]
theorem RdP.cellG (h : RdP G v C X) (hs : sizeT P e = some 1) (hb : aggT P e = some false) (hi : inL X n) (hf : f < 2) : aLoad P G e (elP v (n.toNat * 2 + f)) = some (pc C n f) := h.out.cell hs hb (h.getC hi hf)
theorem RdP.fldG (h : RdP G v C X) (hf : fldT P t f = some off) (hi : inL X n) : aFieldAddr P G t (elP v (n.toNat * 2)) f = some (elP v (n.toNat * 2 + off)) := h.out.fld hf (by unfold inL at hi; omega)
theorem getX (hi : inL X n) (hf : f < 2) : (X.flatMap pr2)[n.toNat * 2 + f]? = (pr2 (gat pnil X n))[f]? := by
  rw [gat_eq]
  exact pr2_get X n.toNat f (by unfold inL at hi; omega) hf
theorem RdP.row0 (h : RdP G v C X) (hi : inL X n) : Sl G (pc C n 0) (ints (gat pnil X n).1) := h.row _ _ _ (h.getC hi (f := 0) (by omega)) (getX hi (by omega))
theorem RdP.row1 (h : RdP G v C X) (hi : inL X n) : Sl G (pc C n 1) (ints (gat pnil X n).2) := h.row _ _ _ (h.getC hi (f := 1) (by omega)) (getX hi (by omega))
theorem Sep.rpNil (h : Sep G B l) (hN : Up B G.length) (eo ei : TypeId) : Sep G B (l ++ [rowsP nilV eo ei [] []]) :=
  h.app (B' := Fr G) (Agree.refl _ _) ⟨fun _ => [], fun k jt hk => by
    cases k with
    | zero =>
      simp at hk
      subst hk
      exact ⟨⟨⟨.nil, rfl, fun k c xs hc => by simp at hc, fun j k c d i _ hc => by simp at hc, fun c hc => by simp at hc⟩, rfl⟩, fun i hi => by simp at hi⟩
    | succ k => simp at hk, fun j k hj hk hjk i hi => by simp at hi⟩ (fun _ h => h) hN
theorem Sep.litP0 (h : Sep G B l) (hN : Up B G.length) (ei : TypeId) (he : elemT P t = some eo) (hq : einfo P eo = some q) (hq1 : q.size = 2) :
    ∃ v G', aBuildSlice P G t 0 [] = some (v, G') ∧ Sep G' B (l ++ [rowsP v eo ei [] []]) ∧ Agree G.length G G' ∧ isTup v = false ∧ v.cells = #[v] := by
  refine ⟨.slice (some ⟨G.length, 0, some 0⟩) 0 0, G ++ [⟨[], eo, 2, 0, false⟩], by simp [aBuildSlice, he, hq, hq1, noTup, fillL, zeros, aNew], ?_, Agree.app _ _, rfl, rfl⟩
  exact h.new (it := rowsP (.slice (some ⟨G.length, 0, some 0⟩) 0 0) eo ei [] []) hN ⟨⟨⟨by simp, .inr ⟨G.length, 0, 0, 0, ⟨[], eo, 2, 0, false⟩, rfl, by simp, rfl, rfl, rfl, rfl, by simp, by simp⟩⟩, rfl, fun k c xs hc => by simp at hc, fun j k c d i _ hc => by simp at hc, fun c hc => by simp at hc⟩, by simp [ids, idOf]⟩ (by simp)
theorem Sep.litP1 (h : Sep G B l) (hN : Up B G.length) (he : elemT P t = some eo) (hq : einfo P eo = some q) (hq1 : q.size = 2) (c1 c2 : Value) :
    ∃ v G', aBuildSlice P G t 1 [(0, .agg #[c1, c2])] = some (v, G') ∧ Sep G' B (l ++ [flatK 2 v eo 1 [c1, c2]]) ∧ Agree G.length G G' ∧ isTup v = false ∧ v.cells = #[v] := by
  refine ⟨.slice (some ⟨G.length, 0, some 0⟩) 1 1, G ++ [⟨[c1, c2], eo, 2, 0, false⟩], ?_, ?_, Agree.app _ _, rfl, rfl⟩
  · have hc : (Value.agg #[c1, c2]).cells = #[c1, c2] := rfl
    simp [aBuildSlice, he, hq, hq1, noTup, isTup, fillL, zeros, aNew, hc, List.range_succ]
  · exact h.new (it := flatK 2 (.slice (some ⟨G.length, 0, some 0⟩) 1 1) eo 1 [c1, c2]) hN ⟨⟨by simp, .inr ⟨G.length, 0, 0, 1, ⟨[c1, c2], eo, 2, 0, false⟩, rfl, by simp, rfl, rfl, rfl, rfl, by simp, by simp⟩⟩, by simp [ids, idOf]⟩ (by simp)
theorem Sep.flatKSl (h : Sep G B l) {n : Nat} (hk : l[k]? = some (flatK 2 u e n cells)) : SlK 2 G u n cells := by
  obtain ⟨A, h1, _⟩ := h.get hk
  exact h1.1.sl
/-- A pair behind the others: it is told within a literal. -/
theorem Sep.pushP (h : Sep G B l) (d1 : j ≠ k1) (d2 : j ≠ k2) (d3 : k1 ≠ k2) (hj : l[j]? = some (rowsP u eo ei C X)) (hk1 : l[k1]? = some (flat c1 ei (ints a))) (hk2 : l[k2]? = some (flat c2 ei (ints b))) (hN : Up B G.length) (he : elemT P t = some eo) (he2 : elemT P t2 = some eo) (hq : einfo P eo = some q) (hq1 : q.size = 2) (hs : SlK 2 G s 1 [c1, c2]) (hb : X.length + 1 ≤ 4294967296) :
    ∃ v' G', aAppend P G t t2 u s = some (v', G') ∧ Sep G' B (((l.set j (rowsP v' eo ei (C ++ [c1, c2]) (lapp X [(a, b)]))).set k1 emp).set k2 emp) ∧ AgB B G G' ∧ isTup v' = false ∧ v'.cells = #[v'] := by
  have hd : srcD P t2 = true := by unfold srcD; rw [elemT_some he2]
  have jl := (List.getElem?_eq_some_iff.1 hj).1
  have kl1 := (List.getElem?_eq_some_iff.1 hk1).1
  have kl2 := (List.getElem?_eq_some_iff.1 hk2).1
  have hr := h.rowsKP hj
  obtain ⟨v', G1, a1, b1, g1, g2, g3⟩ := hr.out.apx (by omega) he hq hq1 hd hs (by omega) hb
  have h1 := h.join d1 hj hk1
  have hj1 : ((l.set j (star (rowsP u eo ei C X) (flat c1 ei (ints a)))).set k1 emp)[j]? = some (star (rowsP u eo ei C X) (flat c1 ei (ints a))) := by
    rw [List.getElem?_set_ne (fun e => d1 e.symm), List.getElem?_set_self jl]
  have hk2' : ((l.set j (star (rowsP u eo ei C X) (flat c1 ei (ints a)))).set k1 emp)[k2]? = some (flat c2 ei (ints b)) := by
    rw [List.getElem?_set_ne d3, List.getElem?_set_ne d2, hk2]
  have h2 := h1.join d2 hj1 hk2'
  have hj2 : ((((l.set j (star (rowsP u eo ei C X) (flat c1 ei (ints a)))).set k1 emp).set j (star (star (rowsP u eo ei C X) (flat c1 ei (ints a))) (flat c2 ei (ints b)))).set k2 emp)[j]? = some (star (star (rowsP u eo ei C X) (flat c1 ei (ints a))) (flat c2 ei (ints b))) := by
    rw [List.getElem?_set_ne (fun e => d2 e.symm), List.getElem?_set_self (by simpa using jl)]
  obtain ⟨G', r, s1, s2, s3⟩ := h2.step (it' := rowsP v' eo ei (C ++ [c1, c2]) (lapp X [(a, b)])) hj2 hN (fun G' => G' = G1) fun A ⟨A0, A3, eA, ⟨A1, A2, eB, ⟨ra, ra'⟩, ⟨x1, x1'⟩, dd1⟩, ⟨x2, x2'⟩, dd2⟩ hA => by
    subst ra' x1' x2' eB eA
    have hCF := ra.len
    have hC := ra.out.1
    have inA : ∀ x ∈ C, ∀ i, idOf x = some i → i ∈ ((ids u ++ C.flatMap ids) ++ ids c1) ++ ids c2 := fun x hx i hi =>
      List.mem_append_left _ (List.mem_append_left _ (List.mem_append_right _ (List.mem_flatMap.2 ⟨x, hx, mem_ids.2 hi⟩)))
    have old : ∀ x ∈ C, ∀ i, idOf x = some i → i < G.length ∧ idOf u ≠ some i := fun x hx i hi => ⟨(hA i (inA x hx i hi)).2, ra.inner x hx i hi⟩
    have old1 : ∀ i, idOf c1 = some i → i < G.length ∧ idOf u ≠ some i := fun i hi => by
      refine ⟨(hA i (List.mem_append_left _ (List.mem_append_right _ (mem_ids.2 hi)))).2, fun hu => ?_⟩
      exact dd1 i (List.mem_append_left _ (mem_ids.2 hu)) (mem_ids.2 hi)
    have old2 : ∀ i, idOf c2 = some i → i < G.length ∧ idOf u ≠ some i := fun i hi => by
      refine ⟨(hA i (List.mem_append_right _ (mem_ids.2 hi))).2, fun hu => ?_⟩
      exact dd2 i (List.mem_append_left _ (List.mem_append_left _ (mem_ids.2 hu))) (mem_ids.2 hi)
    have hu' : ∀ i, idOf v' = some i → idOf u = some i ∨ (G.length ≤ i ∧ i < G1.length) := fun i hi => by
      rcases g3 with g3 | ⟨g3, g4⟩
      · exact .inl (g3 ▸ hi)
      · rw [g3] at hi
        simp at hi
        exact .inr (by omega)
    have hF : (lapp X [(a, b)]).flatMap pr2 = X.flatMap pr2 ++ [ints a, ints b] := by simp [lapp, pr2]
    have hXl : (lapp X [(a, b)]).length = X.length + 1 := by simp [lapp]
    refine ⟨G1, ids v' ++ (C ++ [c1, c2]).flatMap ids, rfl, ⟨⟨by rw [hXl]; exact b1, by rw [hF]; simp [hCF], fun m x xs hx hy => ?_, fun p m x z i hpm hx hz hi hz' => ?_, fun x hx i hi hv => ?_⟩, rfl⟩, fun i hi => ?_, g1, fun i hi hm => g2 i hi fun hu => hm (List.mem_append_left _ (List.mem_append_left _ (List.mem_append_left _ (mem_ids.2 hu))))⟩
    · rw [hF] at hy
      have hlm : m < C.length + 2 := by have := (List.getElem?_eq_some_iff.1 hx).1; simpa using this
      by_cases hm : m < C.length
      · rw [List.getElem?_append_left hm] at hx
        rw [List.getElem?_append_left (by omega)] at hy
        exact (ra.row m x xs hx hy).at fun i hi => g2 i (old x (List.mem_of_getElem? hx) i hi).1 (old x (List.mem_of_getElem? hx) i hi).2
      · rw [List.getElem?_append_right (by omega)] at hx
        rw [List.getElem?_append_right (by omega)] at hy
        rcases (by omega : m = C.length ∨ m = C.length + 1) with rfl | rfl
        · rw [Nat.sub_self] at hx
          rw [hCF, Nat.sub_self] at hy
          simp at hx hy
          subst hx hy
          exact x1.at fun i hi => g2 i (old1 i hi).1 (old1 i hi).2
        · rw [show C.length + 1 - C.length = 1 by omega] at hx
          rw [hCF, show (X.flatMap pr2).length + 1 - (X.flatMap pr2).length = 1 by omega] at hy
          simp at hx hy
          subst hx hy
          exact x2.at fun i hi => g2 i (old2 i hi).1 (old2 i hi).2
    · have hlm : m < C.length + 2 := by have := (List.getElem?_eq_some_iff.1 hz).1; simpa using this
      have side : ∀ y, m = C.length + y → y < 2 → idOf z = some i → (i ∈ ids u ++ C.flatMap ids → False) ∧ (y = 1 → i ∈ ids c1 → False) := by
        intro y hy hy2 hzi
        rw [List.getElem?_append_right (by omega), hy, show C.length + y - C.length = y by omega] at hz
        rcases (by omega : y = 0 ∨ y = 1) with rfl | rfl
        · simp at hz
          subst hz
          exact ⟨fun h' => dd1 i h' (mem_ids.2 hzi), fun h' => by omega⟩
        · simp at hz
          subst hz
          exact ⟨fun h' => dd2 i (List.mem_append_left _ h') (mem_ids.2 hzi), fun _ h' => dd2 i (List.mem_append_right _ h') (mem_ids.2 hzi)⟩
      by_cases hm : m < C.length
      · rw [List.getElem?_append_left (by omega)] at hx
        rw [List.getElem?_append_left hm] at hz
        exact ra.apart p m x z i hpm hx hz hi hz'
      · obtain ⟨e1, e2⟩ := side (m - C.length) (by omega) (by omega) hz'
        by_cases hp : p < C.length
        · rw [List.getElem?_append_left hp] at hx
          exact e1 (List.mem_append_right _ (List.mem_flatMap.2 ⟨x, List.mem_of_getElem? hx, mem_ids.2 hi⟩))
        · have hpc : p = C.length := by omega
          subst hpc
          rw [List.getElem?_append_right (Nat.le_refl _), Nat.sub_self] at hx
          simp at hx
          subst hx
          exact e2 (by omega) (mem_ids.2 hi)
    · have key : i < G.length ∧ idOf u ≠ some i := by
        rcases List.mem_append.1 hx with hx | hx
        · exact old x hx i hi
        · simp at hx
          rcases hx with rfl | rfl
          · exact old1 i hi
          · exact old2 i hi
      rcases hu' i hv with h' | h'
      · exact key.2 h'
      · omega
    · rcases List.mem_append.1 hi with hi | hi
      · rcases hu' i (mem_ids.1 hi) with h' | h'
        · exact .inl (List.mem_append_left _ (List.mem_append_left _ (List.mem_append_left _ (mem_ids.2 h'))))
        · exact .inr h'
      · rw [List.flatMap_append] at hi
        rcases List.mem_append.1 hi with hi | hi
        · exact .inl (List.mem_append_left _ (List.mem_append_left _ (List.mem_append_right _ hi)))
        · simp at hi
          rcases hi with hi | hi
          · exact .inl (List.mem_append_left _ (List.mem_append_right _ hi))
          · exact .inl (List.mem_append_right _ hi)
  subst r
  have e : ((((l.set j (star (rowsP u eo ei C X) (flat c1 ei (ints a)))).set k1 emp).set j (star (star (rowsP u eo ei C X) (flat c1 ei (ints a))) (flat c2 ei (ints b)))).set k2 emp).set j (rowsP v' eo ei (C ++ [c1, c2]) (lapp X [(a, b)])) = ((l.set j (rowsP v' eo ei (C ++ [c1, c2]) (lapp X [(a, b)]))).set k1 emp).set k2 emp := by
    apply List.ext_getElem?
    intro i
    simp only [List.getElem?_set]
    by_cases e1 : j = i
    · subst e1
      simp [d1.symm, d2.symm]
    · by_cases e2 : k1 = i
      · subst e2
        simp [e1, d3.symm]
      · by_cases e3 : k2 = i
        · subst e3; simp [e1]
        · simp [e1, e2, e3]
  rw [e] at s1
  exact ⟨v', G', a1, s1, s2, b1.sl.tup, b1.sl.one⟩
/-- One row taken out of a pair, and put back. -/
theorem Sep.rowOutP (h : Sep G B l) (hk : l[k]? = some (rowsP u eo ei C X)) (hi : inL X n) (hf : f < 2) {xs : List Int} (hx : (pr2 (gat pnil X n))[f]? = some (ints xs)) : Sep G B (l.set k (rowsPX u eo ei C X (n.toNat * 2 + f)) ++ [flat (pc C n f) ei (ints xs)]) := by
  have rd := h.rdP hk
  refine h.split hk fun A ⟨r, rA⟩ => ?_
  have hc := rd.getC hi hf
  have hx' : (X.flatMap pr2)[n.toNat * 2 + f]? = some (ints xs) := by rw [getX hi hf, hx]
  subst rA
  refine ⟨_, _, ⟨⟨r.out, r.len, fun k c xs _ => r.row k c xs, r.apart, r.inner⟩, rfl⟩, ⟨r.row _ _ _ hc hx', rfl⟩, fun i hi => ?_, fun i hi => ?_, fun i hi hm => ?_⟩
  · rcases List.mem_append.1 hi with hi | hi
    · exact List.mem_append_left _ hi
    · obtain ⟨c, hc, hi⟩ := List.mem_flatMap.1 hi
      obtain ⟨m, _, hc⟩ := mem_others.1 hc
      exact List.mem_append_right _ (List.mem_flatMap.2 ⟨c, List.mem_of_getElem? hc, hi⟩)
  · exact List.mem_append_right _ (List.mem_flatMap.2 ⟨_, List.mem_of_getElem? hc, hi⟩)
  · rw [mem_ids] at hm
    rcases List.mem_append.1 hi with hi | hi
    · exact r.inner _ (List.mem_of_getElem? hc) i hm (mem_ids.1 hi)
    · obtain ⟨c, hc', hi⟩ := List.mem_flatMap.1 hi
      obtain ⟨m, hmn, hc'⟩ := mem_others.1 hc'
      rcases Nat.lt_or_gt_of_ne hmn with hlt | hlt
      · exact r.apart m _ c _ i hlt hc' hc (mem_ids.1 hi) hm
      · exact r.apart _ m _ c i hlt hc hc' hm (mem_ids.1 hi)
theorem Sep.rowInP (h : Sep G B l) (hjk : j ≠ k) (hj : l[j]? = some (rowsPX u eo ei C X (n.toNat * 2 + f))) {xs : List Int} (hk : l[k]? = some (flat (pc C n f) ei (ints xs))) (hi : inL X n) (hf : f < 2) (y : PL)
    (hy : (pr2 y).getD f [] = ints xs) (ho : ∀ g, g < 2 → g ≠ f → (pr2 y)[g]? = (pr2 (gat pnil X n))[g]?) : Sep G B ((l.set j (rowsP u eo ei C (lset X n y))).set k emp) := by
  have h1 := h.join hjk hj hk
  have jl := (List.getElem?_eq_some_iff.1 hj).1
  have kl := (List.getElem?_eq_some_iff.1 hk).1
  have hj' : ((l.set j (star (rowsPX u eo ei C X (n.toNat * 2 + f)) (flat (pc C n f) ei (ints xs)))).set k emp)[j]? = some (star (rowsPX u eo ei C X (n.toNat * 2 + f)) (flat (pc C n f) ei (ints xs))) := by
    rw [List.getElem?_set_ne (fun e => hjk e.symm), List.getElem?_set_self jl]
  have hXn : n.toNat < X.length := by unfold inL at hi; omega
  have hset : (lset X n y).flatMap pr2 = (X.flatMap pr2).set (n.toNat * 2 + f) (ints xs) := by
    rw [← hy]
    exact pr2_set X n.toNat f y hXn hf (fun g hg hgf => by rw [ho g hg hgf, gat_eq])
  have h2 := h1.turn (it' := rowsP u eo ei C (lset X n y)) hj' fun A ⟨A1, A2, e1, ⟨r, rA⟩, ⟨b, bA⟩, d⟩ => by
    subst rA bA e1
    have hl := r.len
    have hCl := r.out.1
    have hcl : n.toNat * 2 + f < C.length := by omega
    have hc : C[n.toNat * 2 + f]? = some (pc C n f) := by simp [pc, List.getD_eq_getElem?_getD, hcl]
    refine ⟨_, ⟨⟨by simpa [lset] using r.out, by rw [hset, List.length_set]; exact hl, fun m c xs hm hx => ?_, r.apart, r.inner⟩, rfl⟩, fun i hi => ?_⟩
    · rw [hset] at hx
      by_cases e : m = n.toNat * 2 + f
      · subst e
        rw [hc] at hm
        cases hm
        rw [List.getElem?_set_self (by omega)] at hx
        cases hx
        exact b
      · rw [List.getElem?_set_ne (fun x => e x.symm)] at hx
        exact r.row m c xs e hm hx
    · rcases List.mem_append.1 hi with hi | hi
      · exact List.mem_append_left _ (List.mem_append_left _ hi)
      · obtain ⟨c, hcC, hi⟩ := List.mem_flatMap.1 hi
        obtain ⟨m, hm⟩ := List.getElem?_of_mem hcC
        by_cases e : m = n.toNat * 2 + f
        · subst e
          rw [hc] at hm
          cases hm
          exact List.mem_append_right _ hi
        · exact List.mem_append_left _ (List.mem_append_right _ (List.mem_flatMap.2 ⟨c, mem_others.2 ⟨m, e, hm⟩, hi⟩))
  have e : (((l.set j (star (rowsPX u eo ei C X (n.toNat * 2 + f)) (flat (pc C n f) ei (ints xs)))).set k emp).set j (rowsP u eo ei C (lset X n y))) = (l.set j (rowsP u eo ei C (lset X n y))).set k emp := by
    rw [List.set_comm _ _ (fun e => hjk e.symm), List.set_set]
  rwa [e] at h2
theorem Sep.rowOutP0 (h : Sep G B l) (hk : l[k]? = some (rowsP u eo ei C X)) (hi : inL X n) : Sep G B (l.set k (rowsPX u eo ei C X (n.toNat * 2 + 0)) ++ [flat (pc C n 0) ei (ints (gat pnil X n).1)]) := h.rowOutP hk hi (by omega) rfl
theorem Sep.rowOutP1 (h : Sep G B l) (hk : l[k]? = some (rowsP u eo ei C X)) (hi : inL X n) : Sep G B (l.set k (rowsPX u eo ei C X (n.toNat * 2 + 1)) ++ [flat (pc C n 1) ei (ints (gat pnil X n).2)]) := h.rowOutP hk hi (by omega) rfl
theorem Sep.rowInP0 (h : Sep G B l) (hjk : j ≠ k) (hj : l[j]? = some (rowsPX u eo ei C X (n.toNat * 2 + 0))) {xs : List Int} (hk : l[k]? = some (flat (pc C n 0) ei (ints xs))) (hi : inL X n) : Sep G B ((l.set j (rowsP u eo ei C (lset X n (xs, (gat pnil X n).2)))).set k emp) :=
  h.rowInP hjk hj hk hi (by omega) (xs, (gat pnil X n).2) rfl fun g h1 h2 => by
    rcases (by omega : g = 0 ∨ g = 1) with rfl | rfl
    · omega
    · rfl
theorem Sep.rowInP1 (h : Sep G B l) (hjk : j ≠ k) (hj : l[j]? = some (rowsPX u eo ei C X (n.toNat * 2 + 1))) {xs : List Int} (hk : l[k]? = some (flat (pc C n 1) ei (ints xs))) (hi : inL X n) : Sep G B ((l.set j (rowsP u eo ei C (lset X n ((gat pnil X n).1, xs)))).set k emp) :=
  h.rowInP hjk hj hk hi (by omega) ((gat pnil X n).1, xs) rfl fun g h1 h2 => by
    rcases (by omega : g = 0 ∨ g = 1) with rfl | rfl
    · rfl
    · omega
theorem RdP.fldG0 (h : RdP G v C X) (hf : fldT P t f = some 0) (hi : inL X n) : aFieldAddr P G t (elP v (n.toNat * 2)) f = some (elP v (n.toNat * 2)) := h.fldG hf hi
theorem RdP.cellG0 (h : RdP G v C X) (hs : sizeT P e = some 1) (hb : aggT P e = some false) (hi : inL X n) : aLoad P G e (elP v (n.toNat * 2)) = some (pc C n 0) := h.cellG hs hb hi (f := 0) (by omega)
theorem RdP.fldG1 (h : RdP G v C X) (hf : fldT P t f = some 1) (hi : inL X n) : aFieldAddr P G t (elP v (n.toNat * 2)) f = some (elP v (n.toNat * 2 + 1)) := h.fldG hf hi
theorem RdP.cellG1 (h : RdP G v C X) (hs : sizeT P e = some 1) (hb : aggT P e = some false) (hi : inL X n) : aLoad P G e (elP v (n.toNat * 2 + 1)) = some (pc C n 1) := h.cellG hs hb hi (f := 1) (by omega)
end
end Go.Proofs.Ytbckijeffiofdaa.AL
