/- AL, the parts 37, 38, 39, 40, 41, 42: code told on an abstract heap. No condition. -/
import Derived.Test.YtdghlhdpcmemjaaALC
namespace Go.Proofs.Ytdghlhdpcmemjaa.AL
open Go Go.RowKit
set_option linter.unusedVariables false
set_option linter.unusedSimpArgs false
structure RowsAB (k : Nat) (G : AH) (eo ei : TypeId) (u : Value) (n : Nat) (C : List Value) (F : List (List Value)) (a b : Nat) : Prop where
  out : OwnK k G eo u n C
  len : C.length = F.length
  row : ∀ (m : Nat) (c : Value) (xs : List Value), (m < a ∨ b ≤ m) → C[m]? = some c → F[m]? = some xs → Own G 0 ei c xs
  apart : ∀ (j m : Nat) (c d : Value) (i : Nat), (j < a ∨ b ≤ j) → (m < a ∨ b ≤ m) → j < m → C[j]? = some c → C[m]? = some d → idOf c = some i → idOf d ≠ some i
  inner : ∀ (m : Nat) (c : Value), (m < a ∨ b ≤ m) → C[m]? = some c → ∀ i, idOf c = some i → idOf u ≠ some i
def those (C : List Value) (a b : Nat) : List Value := C.take a ++ C.drop b
theorem mem_those {C : List Value} {a b : Nat} {c : Value} : c ∈ those C a b ↔ ∃ m, (m < a ∨ b ≤ m) ∧ C[m]? = some c := by
  unfold those
  rw [List.mem_append]
  constructor
  · rintro (h | h)
    · obtain ⟨m, hm⟩ := List.getElem?_of_mem h
      have hlt := (List.getElem?_eq_some_iff.1 hm).1
      simp at hlt
      rw [List.getElem?_take_of_lt (by omega)] at hm
      exact ⟨m, .inl (by omega), hm⟩
    · obtain ⟨m, hm⟩ := List.getElem?_of_mem h
      rw [List.getElem?_drop] at hm
      exact ⟨b + m, .inr (by omega), hm⟩
  · rintro ⟨m, hm | hm, hc⟩
    · exact .inl (List.mem_of_getElem? (i := m) (by rw [List.getElem?_take_of_lt hm, hc]))
    · exact .inr (List.mem_of_getElem? (i := m - b) (by rw [List.getElem?_drop, show b + (m - b) = m by omega, hc]))
theorem mem_ab {C : List Value} {a b i : Nat} {u : Value} : i ∈ ids u ++ (those C a b).flatMap ids ↔ idOf u = some i ∨ ∃ m c, (m < a ∨ b ≤ m) ∧ C[m]? = some c ∧ idOf c = some i := by
  rw [List.mem_append, mem_ids, List.mem_flatMap]
  constructor
  · rintro (h | ⟨c, hc, hi⟩)
    · exact .inl h
    · obtain ⟨m, hm, e⟩ := mem_those.1 hc
      exact .inr ⟨m, c, hm, e, mem_ids.1 hi⟩
  · rintro (h | ⟨m, c, hm, e, hi⟩)
    · exact .inl h
    · exact .inr ⟨c, mem_those.2 ⟨m, hm, e⟩, mem_ids.2 hi⟩
theorem RowsAB.at {k : Nat} {G G' : AH} {eo ei : TypeId} {u : Value} {n : Nat} {C : List Value} {F : List (List Value)} {a b : Nat} (h : RowsAB k G eo ei u n C F a b) (ha : ∀ i, i ∈ ids u ++ (those C a b).flatMap ids → G'[i]? = G[i]?) : RowsAB k G' eo ei u n C F a b where
  out := h.out.at fun i hi => ha i (mem_ab.2 (.inl hi))
  len := h.len
  row := fun m c xs hm hc hx => (h.row m c xs hm hc hx).at fun i hi => ha i (mem_ab.2 (.inr ⟨m, c, hm, hc, hi⟩))
  apart := h.apart
  inner := h.inner
def rowsAB (k : Nat) (u : Value) (eo ei : TypeId) (n : Nat) (C : List Value) (F : List (List Value)) (a b : Nat) : Item := ⟨fun G A => RowsAB k G eo ei u n C F a b ∧ A = ids u ++ (those C a b).flatMap ids, fun G G' A h ⟨x, y⟩ => by
  subst y
  exact ⟨x.at h, rfl⟩⟩
section
variable {Y : List PL} {P : Program} {G G1 H : AH} {B : Nat → Prop} {l : List Item} {u v c c1 c2 : Value} {C : List Value} {F : List (List Value)} {xs ys : List Int} {t e eo ei : TypeId} {k kk k1 k2 a b n : Nat} {y z i j : Int} {ki : IntKind} {q : EInfo}
theorem Sep.abF (h : Sep G B l) (hk : l[kk]? = some (rowsAB k u eo ei n C F a b)) : RowsAB k G eo ei u n C F a b := by
  obtain ⟨A, h1, _⟩ := h.get hk
  exact h1.1
theorem Sep.abLess (h : Sep G B l) (hk : l[kk]? = some (rowsAB k u eo ei n C F a b)) {a' b' : Nat} (hl : ∀ m, (m < a' ∨ b' ≤ m) → (m < a ∨ b ≤ m)) : Sep G B (l.set kk (rowsAB k u eo ei n C F a' b')) := h.turn hk fun A ⟨r, rA⟩ => by
  refine ⟨_, ⟨⟨r.out, r.len, fun m c xs hm => r.row m c xs (hl m hm), fun j m c d i hj hm => r.apart j m c d i (hl j hj) (hl m hm), fun m c hm => r.inner m c (hl m hm)⟩, rfl⟩, fun i hi => ?_⟩
  rw [rA]
  rcases mem_ab.1 hi with hi | ⟨m, c, hm, hc, hi⟩
  · exact mem_ab.2 (.inl hi)
  · exact mem_ab.2 (.inr ⟨m, c, hl m hm, hc, hi⟩)
theorem Sep.abTake (h : Sep G B l) (hk : l[kk]? = some (rowsAB k u eo ei n C F a b)) (hc : C[b]? = some c) {zs : List Value} (hx : F[b]? = some zs) (hab : a ≤ b) : Sep G B (l.set kk (rowsAB k u eo ei n C F a (b + 1)) ++ [flat c ei zs]) := by
  refine h.split hk fun A ⟨r, rA⟩ => ?_
  subst rA
  refine ⟨_, _, ⟨⟨r.out, r.len, fun m c xs hm => r.row m c xs (by omega), fun j m c d i hj hm => r.apart j m c d i (by omega) (by omega), fun m c hm => r.inner m c (by omega)⟩, rfl⟩, ⟨r.row b c zs (.inr (Nat.le_refl _)) hc hx, rfl⟩, fun i hi => ?_, fun i hi => ?_, fun i hi hm => ?_⟩
  · rcases mem_ab.1 hi with hi | ⟨m, d, hm, hd, hi⟩
    · exact mem_ab.2 (.inl hi)
    · exact mem_ab.2 (.inr ⟨m, d, by omega, hd, hi⟩)
  · exact mem_ab.2 (.inr ⟨b, c, .inr (Nat.le_refl _), hc, mem_ids.1 hi⟩)
  · rw [mem_ids] at hm
    rcases mem_ab.1 hi with hi | ⟨m, d, hm', hd, hi⟩
    · exact r.inner b c (.inr (Nat.le_refl _)) hc i hm hi
    · rcases Nat.lt_or_ge m b with hlt | hge
      · exact r.apart m b d c i (by omega) (.inr (Nat.le_refl _)) hlt hd hc hi hm
      · exact r.apart b m c d i (.inr (Nat.le_refl _)) (by omega) (by omega) hc hd hm hi
theorem putL {α : Type} {L new : List α} {off a len : Nat} (h : off + len ≤ L.length) (ha : a + new.length ≤ len) : ((L.take (off + a) ++ new ++ L.drop (off + a + new.length)).drop off).take len = ((L.drop off).take len).take a ++ new ++ ((L.drop off).take len).drop (a + new.length) := by
  apply List.ext_getElem?
  intro x
  simp only [List.getElem?_take, List.getElem?_drop, List.getElem?_append, List.length_append, List.length_take, List.length_drop]
  grind
theorem OwnK.put {new : List Value} {v' : Value} {m : Nat} (h : OwnK k G e u n C) (hs : sizeT P e = some k) (hm : m < n) (hv : isTup v' = false) (hc : v'.cells.toList = new) (hn : new.length = k) :
    ∃ G', aStore P G e (elP u (m * k)) v' = some G' ∧ OwnK k G' e u n (C.take (m * k) ++ new ++ C.drop (m * k + k)) ∧ G'.length = G.length ∧ ∀ i, idOf u ≠ some i → G'[i]? = G[i]? := by
  obtain ⟨h0, h⟩ := h
  have hmk : m * k + k ≤ n * k := by
    have : (m + 1) * k ≤ n * k := Nat.mul_le_mul_right k (by omega)
    rw [Nat.add_mul, Nat.one_mul] at this
    exact this
  rcases h with ⟨rfl, rfl⟩ | ⟨i, off, g, c, o, rfl, h1, h2, h3, h4, h5, h6, h7⟩
  · omega
  · have hal : alive G i g = some o := by simp [alive, h1, h2]
    have hlt := (List.getElem?_eq_some_iff.1 h1).1
    have hcs : v'.cells.size = k := by rw [← Array.length_toList, hc, hn]
    simp only [elP, aStore, hal, hs]
    rw [if_pos ⟨h5, hv, hcs, by omega⟩]
    refine ⟨_, rfl, ⟨by simp [hn]; omega, .inr ⟨i, off, g, c, _, rfl, List.getElem?_set_self hlt, h2, h3, h4, h5, by simp [hn, hc]; omega, ?_⟩⟩, by simp, fun j hne => ?_⟩
    · have hl1 : (C.take (m * k) ++ new ++ C.drop (m * k + k)).length = C.length := by simp [hn]; omega
      rw [hl1, hc]
      have := putL (L := o.cells) (new := new) (off := off) (a := m * k) (len := C.length) (by omega) (by rw [hn]; omega)
      rw [hn, h7] at this
      simpa [Nat.add_assoc, hn] using this
    · rw [List.getElem?_set_ne]
      rintro rfl
      exact hne rfl
end
end Go.Proofs.Ytdghlhdpcmemjaa.AL
namespace Go.Proofs.Ytdghlhdpcmemjaa.AL
open Go Go.RowKit
set_option linter.unusedVariables false
set_option linter.unusedSimpArgs false
def subP (u : Value) (a b : Nat) : Value := match u with
  | .slice (some ⟨i, off, some g⟩) n c => .slice (some ⟨i, off + a * 2, some g⟩) (b - a) (if c = n ∧ b = n then b - a else b - a + 1)
  | v => v
section
variable {Y : List PL} {P : Program} {G G1 H : AH} {B : Nat → Prop} {l : List Item} {u v c c1 c2 : Value} {C zs : List Value} {F F' : List (List Value)} {xs ys : List Int} {t e eo ei : TypeId} {k kk k1 k2 a b n m : Nat} {y z i j : Int} {ki : IntKind} {q : EInfo}
theorem Sep.abGive (h : Sep G B l) (hjk : k1 ≠ k2) (hj : l[k1]? = some (rowsAB k u eo ei n C F a b)) (hk : l[k2]? = some (flat c ei zs)) (hc : C[a]? = some c) (hx : F[a]? = some zs) (hab : a < b) : Sep G B ((l.set k1 (rowsAB k u eo ei n C F (a + 1) b)).set k2 emp) := by
  have h1 := h.join hjk hj hk
  have jl := (List.getElem?_eq_some_iff.1 hj).1
  have hj' : ((l.set k1 (star (rowsAB k u eo ei n C F a b) (flat c ei zs))).set k2 emp)[k1]? = some (star (rowsAB k u eo ei n C F a b) (flat c ei zs)) := by
    rw [List.getElem?_set_ne (fun e => hjk e.symm), List.getElem?_set_self jl]
  have h2 := h1.turn (it' := rowsAB k u eo ei n C F (a + 1) b) hj' fun A ⟨A1, A2, e1, ⟨r, rA⟩, ⟨o, oA⟩, d⟩ => by
    subst rA oA e1
    have old : ∀ {m : Nat}, (m < a + 1 ∨ b ≤ m) → m ≠ a → (m < a ∨ b ≤ m) := fun hm hne => by omega
    refine ⟨_, ⟨⟨r.out, r.len, fun m c' xs hm hc' hx' => ?_, fun j m c' d' i hj hm hjm hc' hd' hi hi' => ?_, fun m c' hm hc' i hi hu => ?_⟩, rfl⟩, fun i hi => ?_⟩
    · by_cases e : m = a
      · subst e
        rw [hc] at hc'
        rw [hx] at hx'
        cases hc'
        cases hx'
        exact o
      · exact r.row m c' xs (old hm e) hc' hx'
    · by_cases e : j = a
      · subst e
        rw [hc] at hc'
        cases hc'
        exact d i (mem_ab.2 (.inr ⟨m, d', old hm (by omega), hd', hi'⟩)) (mem_ids.2 hi)
      · by_cases e2 : m = a
        · subst e2
          rw [hc] at hd'
          cases hd'
          exact d i (mem_ab.2 (.inr ⟨j, c', old hj e, hc', hi⟩)) (mem_ids.2 hi')
        · exact r.apart j m c' d' i (old hj e) (old hm e2) hjm hc' hd' hi hi'
    · by_cases e : m = a
      · subst e
        rw [hc] at hc'
        cases hc'
        exact d i (mem_ab.2 (.inl hu)) (mem_ids.2 hi)
      · exact r.inner m c' (old hm e) hc' i hi hu
    · rcases mem_ab.1 hi with hi | ⟨m, c', hm, hc', hi⟩
      · exact List.mem_append_left _ (mem_ab.2 (.inl hi))
      · by_cases e : m = a
        · subst e
          rw [hc] at hc'
          cases hc'
          exact List.mem_append_right _ (mem_ids.2 hi)
        · exact List.mem_append_left _ (mem_ab.2 (.inr ⟨m, c', old hm e, hc', hi⟩))
  have e : (((l.set k1 (star (rowsAB k u eo ei n C F a b) (flat c ei zs))).set k2 emp).set k1 (rowsAB k u eo ei n C F (a + 1) b)) = (l.set k1 (rowsAB k u eo ei n C F (a + 1) b)).set k2 emp := by
    rw [List.set_comm _ _ (fun e => hjk e.symm), List.set_set]
  rwa [e] at h2
theorem OwnK.clear (h : OwnK 2 G e u n C) (he : elemT P t = some e) (hq : einfo P e = some q) (hq1 : q.size = 2) (ha : a < n) :
    ∃ G' D, aClear P G t (subP u a n) = some (.tuple #[], G') ∧ OwnK 2 G' e u n (C.take (a * 2) ++ D) ∧ G'.length = G.length ∧ ∀ i, idOf u ≠ some i → G'[i]? = G[i]? := by
  obtain ⟨h0, h⟩ := h
  rcases h with ⟨rfl, rfl⟩ | ⟨i, off, g, c, o, rfl, h1, h2, h3, h4, h5, h6, h7⟩
  · omega
  · have hal : alive G i g = some o := by simp [alive, h1, h2]
    have hlt := (List.getElem?_eq_some_iff.1 h1).1
    have hz : (zeros q ((n - a) * 2)).length = (n - a) * 2 := by simp [zeros]
    simp only [subP, aClear, he, hal, hq, hq1]
    rw [if_neg (by omega), if_pos ⟨h5, by omega⟩]
    refine ⟨_, zeros q ((n - a) * 2), rfl, ⟨by simp [hz]; omega, .inr ⟨i, off, g, c, _, rfl, List.getElem?_set_self hlt, h2, h3, h4, h5, by simp [hz]; omega, ?_⟩⟩, by simp, fun j hne => ?_⟩
    · have := putL (L := o.cells) (new := zeros q ((n - a) * 2)) (off := off) (a := a * 2) (len := C.length) (by omega) (by omega)
      rw [hz, h7, List.drop_eq_nil_of_le (by omega : C.length ≤ a * 2 + (n - a) * 2), List.append_nil] at this
      rw [show (C.take (a * 2) ++ zeros q ((n - a) * 2)).length = C.length by simp [hz]; omega]
      exact this
    · rw [List.getElem?_set_ne]
      rintro rfl
      exact hne rfl
theorem OwnK.head (h : OwnK 2 G e u n C) (ha : a < n) : OwnK 2 G e (subP u 0 a) a (C.take (a * 2)) := by
  obtain ⟨h0, h⟩ := h
  rcases h with ⟨rfl, rfl⟩ | ⟨i, off, g, c, o, rfl, h1, h2, h3, h4, h5, h6, h7⟩
  · omega
  · refine ⟨by simp; omega, .inr ⟨i, off, g, _, o, by simp [subP]; rfl, h1, h2, h3, h4, h5, by simp; omega, ?_⟩⟩
    rw [← h7, List.take_take]
    congr 1
    simp
    omega
end
end Go.Proofs.Ytdghlhdpcmemjaa.AL
namespace Go.Proofs.Ytdghlhdpcmemjaa.AL
open Go Go.RowKit
set_option linter.unusedVariables false
set_option linter.unusedSimpArgs false
def rowsD (u : Value) (eo ei : TypeId) (C : List Value) (F : List (List Value)) (i j : Int) : Item := rowsAB 1 u eo ei F.length C F i.toNat j.toNat
section
variable {β : Type} {fr : β → List Value} {X : List β} {d : β} {P : Program} {G G1 H : AH} {B : Nat → Prop} {l : List Item} {u v c c1 : Value} {C zs : List Value} {F F' : List (List Value)} {xs : β} {t e eo ei : TypeId} {k kk k1 k2 a b n m : Nat} {y z i j : Int} {ki : IntKind} {q : EInfo}
theorem Sep.toD (h : Sep G B l) (hk : l[kk]? = some (rowsC u eo ei C F)) (i j : Int) : Sep G B (l.set kk (rowsD u eo ei C F i j)) := by
  have h1 : Sep G B (l.set kk (rowsAB 1 u eo ei F.length C F 0 0)) := h.turn hk fun A ⟨r, rA⟩ =>
    ⟨A, ⟨⟨by rw [← r.len]; exact r.out.k1, r.len, fun m c xs _ => r.row m c xs, fun j m c d i _ _ => r.apart j m c d i, fun m c _ hc => r.inner c (List.mem_of_getElem? hc)⟩, by simpa [those] using rA⟩, fun _ h => h⟩
  have h2 := h1.abLess (kk := kk) (a' := i.toNat) (b' := j.toNat) (List.getElem?_set_self (List.getElem?_eq_some_iff.1 hk).1) (fun m _ => .inr (by omega))
  rwa [List.set_set] at h2
theorem Sep.outD (h : Sep G B l) (hk : l[kk]? = some (rowsD u eo ei C F i j)) : SlK 1 G u F.length C ∧ C.length = F.length := ⟨(h.abF hk).out.sl, (h.abF hk).len⟩
theorem Sep.lenD (h : Sep G B l) (hk : l[kk]? = some (rowsD u eo ei C (X.map fr) i j)) (he : elemT P t = some e) : aLen P G t u = some (.int .i64 (llen X)) := by
  have := (h.outD hk).1.len he
  simpa [llen] using this
theorem Sep.idxD (h : Sep G B l) (hk : l[kk]? = some (rowsD u eo ei C (X.map fr) i j)) (he : elemT P t = some e) (hs : sizeT P e = some 1) (hi : inL X z) : aIndexAddr P G t u (.int ki z) = some (elP u z.toNat) := by
  have := (h.outD hk).1.idx (kk := ki) he hs (j := z.toNat) (by unfold inL at hi; simp; omega)
  rwa [Int.toNat_of_nonneg hi.1, Nat.mul_one] at this
theorem Sep.loadD (h : Sep G B l) (hk : l[kk]? = some (rowsD u eo ei C (X.map fr) i j)) (hs : sizeT P e = some 1) (hb : aggT P e = some false) (hi : inL X z) : aLoad P G e (elP u z.toNat) = some (gat nilV C z) := by
  obtain ⟨h1, h2⟩ := h.outD hk
  refine h1.cell hs hb (gat_get ?_)
  unfold inL at hi ⊢
  simp at h2
  omega
theorem Sep.takeD (h : Sep G B l) (hk : l[kk]? = some (rowsD u eo ei C (X.map fr) i j)) (d : β) (hi : inL X j) (hl : X.length ≤ 4294967296) (hij : i.toNat ≤ j.toNat) : Sep G B (l.set kk (rowsD u eo ei C (X.map fr) i (iadd .i64 j 1)) ++ [flat (gat nilV C j) ei (fr (gat d X j))]) := by
  have r := h.abF hk
  have hc : C[j.toNat]? = some (gat nilV C j) := gat_get (by have := r.len; unfold inL at hi ⊢; simp at this; omega)
  have hx : (X.map fr)[j.toNat]? = some (fr (gat d X j)) := by rw [List.getElem?_map, gat_get (d := d) hi]; rfl
  have := h.abTake hk hc hx hij
  unfold rowsD
  rw [step_nat hi hl]
  exact this
theorem Sep.putD (h : Sep G B l) (d1 : kk ≠ k1) (hk : l[kk]? = some (rowsD u eo ei C (X.map fr) i j)) (h1 : l[k1]? = some (flat c1 ei (fr xs))) (hN : Up B G.length) (hs : sizeT P eo = some 1) (hi : inL X i) (hij : i.toNat < j.toNat) (hl : X.length ≤ 4294967296) (ht : isTup c1 = false) (h1c : c1.cells = #[c1]) :
    ∃ G', aStore P G eo (elP u i.toNat) c1 = some G' ∧ Sep G' B ((l.set kk (rowsD u eo ei (lset C i c1) ((lset X i xs).map fr) (iadd .i64 i 1) j)).set k1 emp) ∧ AgB B G G' := by
  have r := h.abF hk
  have hCl := r.out.1
  have hkl := (List.getElem?_eq_some_iff.1 hk).1
  simp only [List.length_map] at hCl
  have hiY : i.toNat < X.length := by unfold inL at hi; omega
  obtain ⟨G1, p1, p2, p3, p4⟩ := r.out.put (P := P) (m := i.toNat) (v' := c1) (new := [c1]) hs (by simpa using hiY) ht (by rw [h1c]) rfl
  have eC : C.take (i.toNat * 1) ++ [c1] ++ C.drop (i.toNat * 1 + 1) = lset C i c1 := by
    unfold lset
    rw [List.set_eq_take_append_cons_drop, if_pos (by omega), Nat.mul_one]
    simp
  have eF : (lset X i xs).map fr = (X.map fr).set i.toNat (fr xs) := by simp [lset, List.map_set]
  rw [Nat.mul_one] at p1
  rw [eC] at p2
  have get : ∀ x, (x < i.toNat ∨ j.toNat ≤ x) → (lset C i c1)[x]? = C[x]? := fun x hx => by
    unfold lset
    rw [List.getElem?_set_ne (by omega)]
  obtain ⟨G', q, s1, s2, s3⟩ := h.step (it' := rowsAB 1 u eo ei (X.map fr).length (lset C i c1) ((lset X i xs).map fr) i.toNat j.toNat) hk hN (fun G' => G' = G1) fun A ⟨ra, rA⟩ hA => by
    subst rA
    refine ⟨G1, _, rfl, ⟨⟨p2, by simp [lset]; omega, fun m c xs hm hc hx => ?_, fun j m c d i hj hm hjm hc hd => ?_, fun m c hm hc => ?_⟩, rfl⟩, fun i hi => .inl ?_, by omega, fun i hi hm => p4 i fun hu => hm (List.mem_append_left _ (mem_ids.2 hu))⟩
    · rw [get m hm] at hc
      rw [eF, List.getElem?_set_ne (by omega)] at hx
      exact (ra.row m c xs hm hc hx).at fun i hi => p4 i (ra.inner m c hm hc i hi)
    · rw [get j hj] at hc
      rw [get m hm] at hd
      exact ra.apart j m c d i hj hm hjm hc hd
    · rw [get m hm] at hc
      exact ra.inner m c hm hc
    · rcases mem_ab.1 hi with hi | ⟨m, c, hm, hc, hi⟩
      · exact mem_ab.2 (.inl hi)
      · rw [get m hm] at hc
        exact mem_ab.2 (.inr ⟨m, c, hm, hc, hi⟩)
  subst q
  have s3 := s1.abGive (k1 := kk) (k2 := k1) (c := c1) d1 (List.getElem?_set_self hkl) (by rw [List.getElem?_set_ne d1, h1]) (by unfold lset; rw [List.getElem?_set_self (by omega)]) (zs := fr xs) (by rw [eF, List.getElem?_set_self (by simpa using hiY)]) (by omega)
  rw [List.set_set] at s3
  refine ⟨G', p1, ?_, s2⟩
  unfold rowsD
  rw [step_nat hi hl, show ((lset X i xs).map fr).length = (X.map fr).length by simp [lset]]
  exact s3
theorem k1_own (h : OwnK 1 G e u n C) : Own G 0 e u C := by
  obtain ⟨h0, h⟩ := h
  rw [Nat.mul_one] at h0
  rcases h with ⟨rfl, rfl⟩ | ⟨i, off, g, c, o, rfl, h1, h2, h3, h4, h5, h6, h7⟩
  · exact .inl ⟨rfl, List.eq_nil_of_length_eq_zero h0⟩
  · exact .inr ⟨i, off, g, c, o, Nat.zero_le _, by rw [h0], h1, h2, h3, h4, h5, h6, h7⟩
theorem subV_head (h : SlK 1 G u n C) (he : elemT P t = some e) (hs : sizeT P e = some 1) (hi : 0 ≤ i) (hn : i.toNat < n) : aSlice P G t u none (some (.int .i64 i)) none = some (subV u 0 i) := by
  obtain ⟨h0, h⟩ := h
  rcases h with ⟨rfl, rfl⟩ | ⟨b, off, g, c, o, rfl, h1, h2, h3, h4⟩
  · omega
  · simp [aSlice, h1, he, hs, idxV, hi, h4, subV, Nat.le_of_lt hn]
theorem subV_tail (h : SlK 1 G u n C) (he : elemT P t = some e) (hs : sizeT P e = some 1) (hi : 0 ≤ i) (hn : i.toNat < n) : aSlice P G t u (some (.int .i64 i)) none none = some (subV u i (n : Int)) := by
  obtain ⟨h0, h⟩ := h
  rcases h with ⟨rfl, rfl⟩ | ⟨b, off, g, c, o, rfl, h1, h2, h3, h4⟩
  · omega
  · simp [aSlice, h1, he, hs, idxV, hi, h4, subV, Nat.le_of_lt hn]
theorem OwnK.clear1 (h : OwnK 1 G e u n C) (he : elemT P t = some e) (hq : einfo P e = some q) (hq1 : q.size = 1) (h0i : 0 ≤ i) (ha : i.toNat < n) :
    ∃ G' D, aClear P G t (subV u i (n : Int)) = some (.tuple #[], G') ∧ OwnK 1 G' e u n (C.take i.toNat ++ D) ∧ G'.length = G.length ∧ ∀ i, idOf u ≠ some i → G'[i]? = G[i]? := by
  obtain ⟨h0, h⟩ := h
  rcases h with ⟨rfl, rfl⟩ | ⟨b, off, g, c, o, rfl, h1, h2, h3, h4, h5, h6, h7⟩
  · omega
  · have hal : alive G b g = some o := by simp [alive, h1, h2]
    have hlt := (List.getElem?_eq_some_iff.1 h1).1
    have hz : (zeros q (n - i.toNat)).length = n - i.toNat := by simp [zeros]
    simp only [subV, aClear, he, hal, hq, hq1, Int.toNat_natCast, Nat.mul_one]
    rw [if_neg (by omega), if_pos ⟨h5, by omega⟩]
    refine ⟨_, zeros q (n - i.toNat), rfl, ⟨by simp [hz]; omega, .inr ⟨b, off, g, c, _, rfl, List.getElem?_set_self hlt, h2, h3, h4, h5, by simp [hz]; omega, ?_⟩⟩, by simp, fun j hne => ?_⟩
    · have := putL (L := o.cells) (new := zeros q (n - i.toNat)) (off := off) (a := i.toNat) (len := C.length) (by omega) (by omega)
      rw [hz, h7, List.drop_eq_nil_of_le (by omega : C.length ≤ i.toNat + (n - i.toNat)), List.append_nil] at this
      rw [show (C.take i.toNat ++ zeros q (n - i.toNat)).length = C.length by simp [hz]; omega]
      exact this
    · rw [List.getElem?_set_ne]
      rintro rfl
      exact hne rfl
theorem OwnK.head1 (h : OwnK 1 G e u n C) (h0i : 0 ≤ i) (ha : i.toNat < n) : OwnK 1 G e (subV u 0 i) i.toNat (C.take i.toNat) := by
  obtain ⟨h0, h⟩ := h
  rcases h with ⟨rfl, rfl⟩ | ⟨b, off, g, c, o, rfl, h1, h2, h3, h4, h5, h6, h7⟩
  · omega
  · refine ⟨by simp; omega, .inr ⟨b, off, g, _, o, by simp [subV]; rfl, h1, h2, h3, h4, h5, by simp; omega, ?_⟩⟩
    rw [← h7, List.take_take]
    congr 1
    simp
    omega
theorem idOf_head1 (h : OwnK 1 G e u n C) (ha : i.toNat < n) : idOf (subV u 0 i) = idOf u := by
  obtain ⟨h0, h⟩ := h
  rcases h with ⟨rfl, rfl⟩ | ⟨b, off, g, c, o, rfl, h1⟩
  · omega
  · rfl
theorem Sep.clearD (h : Sep G B l) (hk : l[kk]? = some (rowsD u eo ei C (X.map fr) i j)) (hN : Up B G.length) (he : elemT P t = some eo) (hq : einfo P eo = some q) (hq1 : q.size = 1) (hi : inL X i) (hj : j = llen X) :
    ∃ G' D, aClear P G t (subV u i (llen X)) = some (.tuple #[], G') ∧ Sep G' B (l.set kk (rowsD u eo ei D (X.map fr) i j)) ∧ AgB B G G' := by
  have r := h.abF hk
  have hCl := r.out.1
  simp only [List.length_map] at hCl
  have hiY : i.toNat < X.length := by unfold inL at hi; omega
  obtain ⟨G1, D, p1, p2, p3, p4⟩ := r.out.clear1 (P := P) (i := i) he hq hq1 hi.1 (by simpa using hiY)
  have hDl := p2.1
  simp only [List.length_map] at hDl p1
  have jl : j.toNat = X.length := by subst hj; simp [llen]
  have get : ∀ x : Nat, (x < i.toNat ∨ j.toNat ≤ x) → (C.take i.toNat ++ D)[x]? = C[x]? := fun x hx => by
    rcases hx with hx | hx
    · rw [List.getElem?_append_left (by simp; omega), List.getElem?_take_of_lt hx]
    · rw [List.getElem?_eq_none (by omega), List.getElem?_eq_none (by omega)]
  obtain ⟨G', q', s1, s2, s3⟩ := h.step (it' := rowsD u eo ei (C.take i.toNat ++ D) (X.map fr) i j) hk hN (fun G' => G' = G1) fun A ⟨ra, rA⟩ hA => by
    subst rA
    refine ⟨G1, _, rfl, ⟨⟨p2, by rw [hDl]; simp, fun m c xs hm hc hx => ?_, fun j m c d i hj hm hjm hc hd => ?_, fun m c hm hc => ?_⟩, rfl⟩, fun i hi => .inl ?_, by omega, fun i hi hm => p4 i fun hu => hm (List.mem_append_left _ (mem_ids.2 hu))⟩
    · rw [get m hm] at hc
      exact (ra.row m c xs hm hc hx).at fun i hi => p4 i (ra.inner m c hm hc i hi)
    · rw [get j hj] at hc
      rw [get m hm] at hd
      exact ra.apart j m c d i hj hm hjm hc hd
    · rw [get m hm] at hc
      exact ra.inner m c hm hc
    · rcases mem_ab.1 hi with hi | ⟨m, c, hm, hc, hi⟩
      · exact mem_ab.2 (.inl hi)
      · rw [get m hm] at hc
        exact mem_ab.2 (.inr ⟨m, c, hm, hc, hi⟩)
  subst q'
  exact ⟨G', _, p1, s1, s2⟩
theorem Sep.headD (h : Sep G B l) (hk : l[kk]? = some (rowsD u eo ei C (X.map fr) i j)) (hi : inL X i) : Sep G B (l.set kk (rowsC (subV u 0 i) eo ei (C.take i.toNat) ((X.take i.toNat).map fr))) := h.turn hk fun A ⟨r, rA⟩ => by
  subst rA
  have hCl := r.out.1
  simp only [List.length_map] at hCl
  have hiY : i.toNat < X.length := by unfold inL at hi; omega
  have hget : ∀ (m : Nat) (c : Value), (C.take i.toNat)[m]? = some c → m < i.toNat ∧ C[m]? = some c := fun m c hm => by
    have hlt := (List.getElem?_eq_some_iff.1 hm).1
    simp at hlt
    rw [List.getElem?_take_of_lt (by omega)] at hm
    exact ⟨by omega, hm⟩
  have hid := idOf_head1 (i := i) r.out (by simpa using hiY)
  refine ⟨_, ⟨⟨k1_own (r.out.head1 hi.1 (by simpa using hiY)), by simp; omega, fun m c xs hc hx => ?_, fun j m c d i hjm hc hd => ?_, fun c hc => ?_⟩, rfl⟩, fun i hi => ?_⟩
  · obtain ⟨hm, hc⟩ := hget m c hc
    rw [List.map_take, List.getElem?_take_of_lt hm] at hx
    exact r.row m c xs (.inl hm) hc hx
  · obtain ⟨hj, hc⟩ := hget j c hc
    obtain ⟨hm, hd⟩ := hget m d hd
    exact r.apart j m c d i (.inl hj) (.inl hm) hjm hc hd
  · obtain ⟨m, hm⟩ := List.getElem?_of_mem hc
    obtain ⟨hm, hc⟩ := hget m c hm
    rw [hid]
    exact r.inner m c (.inl hm) hc
  · rcases List.mem_append.1 hi with hi | hi
    · rw [mem_ids, hid] at hi
      exact mem_ab.2 (.inl hi)
    · obtain ⟨c, hcC, hi⟩ := List.mem_flatMap.1 hi
      obtain ⟨m, hm⟩ := List.getElem?_of_mem hcC
      obtain ⟨hm, hc⟩ := hget m c hm
      exact mem_ab.2 (.inr ⟨m, c, .inl hm, hc, mem_ids.1 hi⟩)
theorem Sep.tailVD (h : Sep G B l) (hk : l[kk]? = some (rowsD u eo ei C (X.map fr) i j)) (he : elemT P t = some e) (hs : sizeT P e = some 1) (hi : inL X i) : aSlice P G t u (some (.int .i64 i)) none none = some (subV u i (llen X)) := by
  have := subV_tail (h.outD hk).1 he hs hi.1 (by unfold inL at hi; simp; omega)
  simpa [llen] using this
theorem Sep.headVD (h : Sep G B l) (hk : l[kk]? = some (rowsD u eo ei C (X.map fr) i j)) (he : elemT P t = some e) (hs : sizeT P e = some 1) (hi : inL X i) : aSlice P G t u none (some (.int .i64 i)) none = some (subV u 0 i) :=
  subV_head (h.outD hk).1 he hs hi.1 (by unfold inL at hi; simp; omega)
end
end Go.Proofs.Ytdghlhdpcmemjaa.AL
namespace Go.Proofs.Ytdghlhdpcmemjaa.AL
open Go Go.RowKit
set_option linter.unusedVariables false
set_option linter.unusedSimpArgs false
theorem Bx.later {G G1 : AH} {B : Nat → Prop} {p : Value} {cells : List Value} (h : ∃ F, (AL.box p cells).P G F ∧ ∀ i ∈ F, ¬ B i) (a : AgB B G G1) : Bx G1 p cells := by
  obtain ⟨F, ⟨i, ⟨e, o, b, c⟩, rfl⟩, h2⟩ := h
  exact ⟨i, e, o, (a.2 i (h2 i (by simp))).trans b, c⟩
end Go.Proofs.Ytdghlhdpcmemjaa.AL
namespace Go.Proofs.Ytdghlhdpcmemjaa.AL
open Go Go.RowKit
set_option linter.unusedVariables false
set_option linter.unusedSimpArgs false
abbrev I2 := Int × Int
def ce (p : I2) : List Value := [.int .i64 p.1, .int .i64 p.2]
def ces (X : List I2) : List Value := X.flatMap ce
def i2 : I2 := (0, 0)
theorem ces_at : ∀ (X : List I2) (j : Nat), j < X.length → ((ces X).drop (j * 2)).take 2 = ce (X.getD j i2)
  | x :: X, 0, _ => by simp [ces, ce]
  | x :: X, j + 1, h => by
    have := ces_at X j (by simpa using h)
    rw [show ces (x :: X) = ce x ++ ces X from List.flatMap_cons, show (j + 1) * 2 = (ce x).length + j * 2 by simp [ce]; omega, List.drop_append, List.drop_of_length_le (Nat.le_add_right _ _), List.nil_append, Nat.add_sub_cancel_left, this]
    simp
def SlI (G : AH) (v : Value) (X : List I2) : Prop := SlK 2 G v X.length (ces X)
section
variable {P : Program} {G G1 H : AH} {B : Nat → Prop} {l : List Item} {u v s : Value} {X Y : List I2} {t t2 e : TypeId} {j k : Nat} {q : EInfo} {n : Int} {kk : IntKind} {a b : Int}
theorem SlI.agree (h : SlI G v X) (a : Agree G.length G G1) : SlI G1 v X := SlK.agree h a
theorem SlI.agr (h : SlI H v X) (a : AgB B H G) (hd : ∀ i, idOf v = some i → ¬ B i) : SlI G v X := by
  obtain ⟨h0, h⟩ := h
  refine ⟨h0, ?_⟩
  rcases h with h | ⟨i, off, g, c, o, rfl, h1, h2⟩
  · exact .inl h
  · obtain ⟨a1, a2⟩ := alive_some h1
    exact .inr ⟨i, off, g, c, o, rfl, by simp [alive, a.2 i (hd i rfl), a1, a2], h2⟩
theorem SlI.id_lt (h : SlI G v X) {i : Nat} (hi : idOf v = some i) : i < G.length := by
  obtain ⟨h0, h⟩ := h
  rcases h with ⟨rfl, _⟩ | ⟨i', off, g, c, o, rfl, h1, _⟩
  · simp [idOf] at hi
  · simp [idOf] at hi
    subst hi
    exact (List.getElem?_eq_some_iff.1 (alive_some h1).1).1
theorem SlI.tup (h : SlI G v X) : isTup v = false := SlK.tup h
theorem SlI.one (h : SlI G v X) : v.cells = #[v] := SlK.one h
theorem SlI.nil : SlI G nilV [] := ⟨rfl, .inl ⟨rfl, rfl⟩⟩
theorem SlI.lenG (h : SlI G v X) (he : elemT P t = some e) : aLen P G t v = some (.int .i64 (llen X)) := SlK.len h he
theorem SlI.idxG (h : SlI G v X) (he : elemT P t = some e) (hs : sizeT P e = some 2) (hi : inL X n) : aIndexAddr P G t v (.int kk n) = some (elP v (n.toNat * 2)) := by
  have := SlK.idx (kk := kk) h he hs (j := n.toNat) (by unfold inL at hi; omega)
  rwa [Int.toNat_of_nonneg hi.1] at this
theorem SlI.loadG (h : SlI G v X) (hs : sizeT P e = some 2) (hb : aggT P e = some true) (hi : inL X n) : aLoad P G e (elP v (n.toNat * 2)) = some (.agg #[.int .i64 (gat i2 X n).1, .int .i64 (gat i2 X n).2]) := by
  have hj : n.toNat < X.length := by unfold inL at hi; omega
  rw [SlK.agg h hs hb hj, ces_at X _ hj, ← gat_eq]
  rfl
def arrV (p : Value) (n : Nat) : Value := match p with
  | .pointer (some ⟨i, o, some g⟩) => .slice (some ⟨i, o, some g⟩) n n
  | v => v
theorem BoxAt.arr {p : Value} {cells : List Value} {i n : Nat} (h : BoxAt G p cells i) (hu : P.underlying t = some (.array n e)) (hs : sizeT P e = some 1) (hn : cells.length = n) : aSlice P G t p none none none = some (arrV p n) ∧ Sl G (arrV p n) cells := by
  obtain ⟨rfl, o, h1, h2, rfl, h3, hz⟩ := h
  have ha : alive G i 0 = some o := by simp [alive, h1, h2]
  refine ⟨?_, .inr ⟨i, 0, 0, n, o, by simp [arrV, ptrAt, hn], ha, by simp, by simp, hz⟩⟩
  simp [ptrAt, aSlice, ha, hu, hs, hz, hn, arrV]
end
end Go.Proofs.Ytdghlhdpcmemjaa.AL
namespace Go.Proofs.Ytdghlhdpcmemjaa.AL
open Go Go.RowKit
set_option linter.unusedVariables false
set_option linter.unusedSimpArgs false
section
variable {β : Type} {fr : β → List Value} {X : List β} {y : β} {P : Program} {G G1 H : AH} {B : Nat → Prop} {l : List Item} {u v c s : Value} {C cells new : List Value} {F : List (List Value)} {t t2 e eo ei : TypeId} {j k w : Nat} {q : EInfo} {a b : Int}
theorem gat_last {α : Type} {d x : α} {C : List α} {n : Int} (h : n = (C.length : Int)) : gat d (C ++ [x]) n = x := by
  subst h
  simp [gat_eq]
theorem Sep.lastV (h : Sep G B l) (hk : l[k]? = some (rowsC u eo ei (C ++ [c]) ((lapp X [y]).map fr))) : gat nilV (C ++ [c]) (llen X) = c := by
  have := (h.rd hk).len
  simp [lapp] at this
  exact gat_last (by simp [llen, this])
end
end Go.Proofs.Ytdghlhdpcmemjaa.AL
