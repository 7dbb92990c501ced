/- AL, the parts 37, 38, 39, 40, 41, 42, 43, 44, 45: code told on an abstract heap. No condition. -/
import Derived.Test.YtogghgecmjnieaaGreatALC
namespace Go.Proofs.YtogghgecmjnieaaGreat.AL
open Go Go.RowKit
set_option linter.unusedVariables false
set_option linter.unusedSimpArgs false
section
attribute [local simp] aBin' aBin aBinI aUn aNil flatV
structure RowsAB (k : Nat) (G : AH) (eo ei : TypeId) (u : Value) (n : Nat) (C : List Value) (F : List (List Value)) (a b : Nat) : Prop where
 out : OwnK k G eo u n C
 len : C.length = F.length
 row : ∀ (m : Nat) (c : Value) (xs : List Value), (m < a ∨ b ≤ m) → C[m]? = some c → F[m]? = some xs → Own G 0 ei c xs
 apart : ∀ (j m : Nat) (c d : Value) (i : Nat), (j < a ∨ b ≤ j) → (m < a ∨ b ≤ m) → j < m → C[j]? = some c → C[m]? = some d → idOf c = some i → idOf d ≠ some i
 inner : ∀ (m : Nat) (c : Value), (m < a ∨ b ≤ m) → C[m]? = some c → ∀ i, idOf c = some i → idOf u ≠ some i
def those (C : List Value) (a b : Nat) : List Value := C.take a ++ C.drop b
theorem mem_those {C : List Value} {a b : Nat} {c : Value} : c ∈ those C a b ↔ ∃ m, (m < a ∨ b ≤ m) ∧ C[m]? = some c := by
 unfold those
 rw [List.mem_append]
 constructor
 ·rintro (h | h)
  ·obtain ⟨m, hm⟩ := List.getElem?_of_mem h
   have hlt := (List.getElem?_eq_some_iff.1 hm).1
   simp at hlt
   rw [List.getElem?_take_of_lt (by omega)] at hm
   exact ⟨m, .inl (by omega), hm⟩
  ·obtain ⟨m, hm⟩ := List.getElem?_of_mem h
   rw [List.getElem?_drop] at hm
   exact ⟨b + m, .inr (by omega), hm⟩
 ·rintro ⟨m, hm | hm, hc⟩
  ·exact .inl (List.mem_of_getElem? (i := m) (by rw [List.getElem?_take_of_lt hm, hc]))
  ·exact .inr (List.mem_of_getElem? (i := m - b) (by rw [List.getElem?_drop, show b + (m - b) = m by omega, hc]))
theorem mem_ab {C : List Value} {a b i : Nat} {u : Value} : i ∈ ids u ++ (those C a b).flatMap ids ↔ idOf u = some i ∨ ∃ m c, (m < a ∨ b ≤ m) ∧ C[m]? = some c ∧ idOf c = some i := by
 rw [List.mem_append, mem_ids, List.mem_flatMap]
 constructor
 ·rintro (h | ⟨c, hc, hi⟩)
  ·exact .inl h
  ·obtain ⟨m, hm, e⟩ := mem_those.1 hc
   exact .inr ⟨m, c, hm, e, mem_ids.1 hi⟩
 ·rintro (h | ⟨m, c, hm, e, hi⟩)
  ·exact .inl h
  ·exact .inr ⟨c, mem_those.2 ⟨m, hm, e⟩, mem_ids.2 hi⟩
theorem RowsAB.at {k : Nat} {G G' : AH} {eo ei : TypeId} {u : Value} {n : Nat} {C : List Value} {F : List (List Value)} {a b : Nat} (h : RowsAB k G eo ei u n C F a b) (ha : ∀ i, i ∈ ids u ++ (those C a b).flatMap ids → G'[i]? = G[i]?) : RowsAB k G' eo ei u n C F a b where
 out := h.out.at fun i hi => ha i (mem_ab.2 (.inl hi))
 len := h.len
 row := fun m c xs hm hc hx => (h.row m c xs hm hc hx).at fun i hi => ha i (mem_ab.2 (.inr ⟨m, c, hm, hc, hi⟩))
 apart := h.apart
 inner := h.inner
def rowsAB (k : Nat) (u : Value) (eo ei : TypeId) (n : Nat) (C : List Value) (F : List (List Value)) (a b : Nat) : Item := ⟨fun G A => RowsAB k G eo ei u n C F a b ∧ A = ids u ++ (those C a b).flatMap ids, fun G G' A h ⟨x, y⟩ => by
 subst y
 exact ⟨x.at h, rfl⟩⟩
section
variable {Y : List PL} {P : Program} {G G1 H : AH} {B : Nat → Prop} {l : List Item} {u v c c1 c2 : Value} {C : List Value} {F : List (List Value)} {xs ys : List Int} {t e eo ei : TypeId} {k kk k1 k2 a b n : Nat} {y z i j : Int} {ki : IntKind} {q : EInfo}
theorem Sep.abF (h : Sep G B l) (hk : l[kk]? = some (rowsAB k u eo ei n C F a b)) : RowsAB k G eo ei u n C F a b := by
 obtain ⟨A, h1, _⟩ := h.get hk
 exact h1.1
theorem Sep.abLess (h : Sep G B l) (hk : l[kk]? = some (rowsAB k u eo ei n C F a b)) {a' b' : Nat} (hl : ∀ m, (m < a' ∨ b' ≤ m) → (m < a ∨ b ≤ m)) : Sep G B (l.set kk (rowsAB k u eo ei n C F a' b')) := h.turn hk fun A ⟨r, rA⟩ => by
 refine ⟨_, ⟨⟨r.out, r.len, fun m c xs hm => r.row m c xs (hl m hm), fun j m c d i hj hm => r.apart j m c d i (hl j hj) (hl m hm), fun m c hm => r.inner m c (hl m hm)⟩, rfl⟩, fun i hi => ?_⟩
 rw [rA]
 rcases mem_ab.1 hi with hi | ⟨m, c, hm, hc, hi⟩
 ·exact mem_ab.2 (.inl hi)
 ·exact mem_ab.2 (.inr ⟨m, c, hl m hm, hc, hi⟩)
theorem Sep.abTake (h : Sep G B l) (hk : l[kk]? = some (rowsAB k u eo ei n C F a b)) (hc : C[b]? = some c) {zs : List Value} (hx : F[b]? = some zs) (hab : a ≤ b) : Sep G B (l.set kk (rowsAB k u eo ei n C F a (b + 1)) ++ [flat c ei zs]) := by
 refine h.split hk fun A ⟨r, rA⟩ => ?_
 subst rA
 refine ⟨_, _, ⟨⟨r.out, r.len, fun m c xs hm => r.row m c xs (by omega), fun j m c d i hj hm => r.apart j m c d i (by omega) (by omega), fun m c hm => r.inner m c (by omega)⟩, rfl⟩, ⟨r.row b c zs (.inr (Nat.le_refl _)) hc hx, rfl⟩, fun i hi => ?_, fun i hi => ?_, fun i hi hm => ?_⟩
 ·rcases mem_ab.1 hi with hi | ⟨m, d, hm, hd, hi⟩
  ·exact mem_ab.2 (.inl hi)
  ·exact mem_ab.2 (.inr ⟨m, d, by omega, hd, hi⟩)
 ·exact mem_ab.2 (.inr ⟨b, c, .inr (Nat.le_refl _), hc, mem_ids.1 hi⟩)
 ·rw [mem_ids] at hm
  rcases mem_ab.1 hi with hi | ⟨m, d, hm', hd, hi⟩
  ·exact r.inner b c (.inr (Nat.le_refl _)) hc i hm hi
  ·rcases Nat.lt_or_ge m b with hlt | hge
   ·exact r.apart m b d c i (by omega) (.inr (Nat.le_refl _)) hlt hd hc hi hm
   ·exact r.apart b m c d i (.inr (Nat.le_refl _)) (by omega) (by omega) hc hd hm hi
theorem putL {α : Type} {L new : List α} {off a len : Nat} (h : off + len ≤ L.length) (ha : a + new.length ≤ len) : ((L.take (off + a) ++ new ++ L.drop (off + a + new.length)).drop off).take len = ((L.drop off).take len).take a ++ new ++ ((L.drop off).take len).drop (a + new.length) := by
 apply List.ext_getElem?
 intro x
 simp only [List.getElem?_take, List.getElem?_drop, List.getElem?_append, List.length_append, List.length_take, List.length_drop]
 grind
theorem OwnK.put {new : List Value} {v' : Value} {m : Nat} (h : OwnK k G e u n C) (hs : sizeT P e = some k) (hm : m < n) (hv : isTup v' = false) (hc : v'.cells.toList = new) (hn : new.length = k) :
  ∃ G', aStore P G e (elP u (m * k)) v' = some G' ∧ OwnK k G' e u n (C.take (m * k) ++ new ++ C.drop (m * k + k)) ∧ G'.length = G.length ∧ ∀ i, idOf u ≠ some i → G'[i]? = G[i]? := by
 obtain ⟨h0, h⟩ := h
 have hmk : m * k + k ≤ n * k := by
  have : (m + 1) * k ≤ n * k := Nat.mul_le_mul_right k (by omega)
  rw [Nat.add_mul, Nat.one_mul] at this
  exact this
 rcases h with ⟨rfl, rfl⟩ | ⟨i, off, g, c, o, rfl, h1, h2, h3, h4, h5, h6, h7⟩
 ·omega
 ·have hal : alive G i g = some o := by simp [alive, h1, h2]
  have hlt := (List.getElem?_eq_some_iff.1 h1).1
  have hcs : v'.cells.size = k := by rw [← Array.length_toList, hc, hn]
  simp only [elP, aStore, hal, hs]
  rw [if_pos ⟨h5, hv, hcs, by omega⟩]
  refine ⟨_, rfl, ⟨by simp [hn]; omega, .inr ⟨i, off, g, c, _, rfl, List.getElem?_set_self hlt, h2, h3, h4, h5, by simp [hn, hc]; omega, ?_⟩⟩, by simp, fun j hne => ?_⟩
  ·have hl1 : (C.take (m * k) ++ new ++ C.drop (m * k + k)).length = C.length := by simp [hn]; omega
   rw [hl1, hc]
   have := putL (L := o.cells) (new := new) (off := off) (a := m * k) (len := C.length) (by omega) (by rw [hn]; omega)
   rw [hn, h7] at this
   simpa [Nat.add_assoc, hn] using this
  ·rw [List.getElem?_set_ne]
   rintro rfl
   exact hne rfl
end
end
section
attribute [local simp] aBin' aBin aBinI aUn aNil flatV
def subP (u : Value) (a b : Nat) : Value := match u with
 | .slice (some ⟨i, off, some g⟩) n c => .slice (some ⟨i, off + a * 2, some g⟩) (b - a) (if c = n ∧ b = n then b - a else b - a + 1)
 | v => v
section
variable {Y : List PL} {P : Program} {G G1 H : AH} {B : Nat → Prop} {l : List Item} {u v c c1 c2 : Value} {C zs : List Value} {F F' : List (List Value)} {xs ys : List Int} {t e eo ei : TypeId} {k kk k1 k2 a b n m : Nat} {y z i j : Int} {ki : IntKind} {q : EInfo}
theorem Sep.abGive (h : Sep G B l) (hjk : k1 ≠ k2) (hj : l[k1]? = some (rowsAB k u eo ei n C F a b)) (hk : l[k2]? = some (flat c ei zs)) (hc : C[a]? = some c) (hx : F[a]? = some zs) (hab : a < b) : Sep G B ((l.set k1 (rowsAB k u eo ei n C F (a + 1) b)).set k2 emp) := by
 have h1 := h.join hjk hj hk
 have jl := (List.getElem?_eq_some_iff.1 hj).1
 have hj' : ((l.set k1 (star (rowsAB k u eo ei n C F a b) (flat c ei zs))).set k2 emp)[k1]? = some (star (rowsAB k u eo ei n C F a b) (flat c ei zs)) := by
  rw [List.getElem?_set_ne (fun e => hjk e.symm), List.getElem?_set_self jl]
 have h2 := h1.turn (it' := rowsAB k u eo ei n C F (a + 1) b) hj' fun A ⟨A1, A2, e1, ⟨r, rA⟩, ⟨o, oA⟩, d⟩ => by
  subst rA oA e1
  have old : ∀ {m : Nat}, (m < a + 1 ∨ b ≤ m) → m ≠ a → (m < a ∨ b ≤ m) := fun hm hne => by omega
  refine ⟨_, ⟨⟨r.out, r.len, fun m c' xs hm hc' hx' => ?_, fun j m c' d' i hj hm hjm hc' hd' hi hi' => ?_, fun m c' hm hc' i hi hu => ?_⟩, rfl⟩, fun i hi => ?_⟩
  ·by_cases e : m = a
   ·subst e
    rw [hc] at hc'
    rw [hx] at hx'
    cases hc'
    cases hx'
    exact o
   ·exact r.row m c' xs (old hm e) hc' hx'
  ·by_cases e : j = a
   ·subst e
    rw [hc] at hc'
    cases hc'
    exact d i (mem_ab.2 (.inr ⟨m, d', old hm (by omega), hd', hi'⟩)) (mem_ids.2 hi)
   ·by_cases e2 : m = a
    ·subst e2
     rw [hc] at hd'
     cases hd'
     exact d i (mem_ab.2 (.inr ⟨j, c', old hj e, hc', hi⟩)) (mem_ids.2 hi')
    ·exact r.apart j m c' d' i (old hj e) (old hm e2) hjm hc' hd' hi hi'
  ·by_cases e : m = a
   ·subst e
    rw [hc] at hc'
    cases hc'
    exact d i (mem_ab.2 (.inl hu)) (mem_ids.2 hi)
   ·exact r.inner m c' (old hm e) hc' i hi hu
  ·rcases mem_ab.1 hi with hi | ⟨m, c', hm, hc', hi⟩
   ·exact List.mem_append_left _ (mem_ab.2 (.inl hi))
   ·by_cases e : m = a
    ·subst e
     rw [hc] at hc'
     cases hc'
     exact List.mem_append_right _ (mem_ids.2 hi)
    ·exact List.mem_append_left _ (mem_ab.2 (.inr ⟨m, c', old hm e, hc', hi⟩))
 have e : (((l.set k1 (star (rowsAB k u eo ei n C F a b) (flat c ei zs))).set k2 emp).set k1 (rowsAB k u eo ei n C F (a + 1) b)) = (l.set k1 (rowsAB k u eo ei n C F (a + 1) b)).set k2 emp := by
  rw [List.set_comm _ _ (fun e => hjk e.symm), List.set_set]
 rwa [e] at h2
theorem OwnK.clear (h : OwnK 2 G e u n C) (he : elemT P t = some e) (hq : einfo P e = some q) (hq1 : q.size = 2) (ha : a < n) :
  ∃ G' D, aClear P G t (subP u a n) = some (.tuple #[], G') ∧ OwnK 2 G' e u n (C.take (a * 2) ++ D) ∧ G'.length = G.length ∧ ∀ i, idOf u ≠ some i → G'[i]? = G[i]? := by
 obtain ⟨h0, h⟩ := h
 rcases h with ⟨rfl, rfl⟩ | ⟨i, off, g, c, o, rfl, h1, h2, h3, h4, h5, h6, h7⟩
 ·omega
 ·have hal : alive G i g = some o := by simp [alive, h1, h2]
  have hlt := (List.getElem?_eq_some_iff.1 h1).1
  have hz : (zeros q ((n - a) * 2)).length = (n - a) * 2 := by simp [zeros]
  simp only [subP, aClear, he, hal, hq, hq1]
  rw [if_neg (by omega), if_pos ⟨h5, by omega⟩]
  refine ⟨_, zeros q ((n - a) * 2), rfl, ⟨by simp [hz]; omega, .inr ⟨i, off, g, c, _, rfl, List.getElem?_set_self hlt, h2, h3, h4, h5, by simp [hz]; omega, ?_⟩⟩, by simp, fun j hne => ?_⟩
  ·have := putL (L := o.cells) (new := zeros q ((n - a) * 2)) (off := off) (a := a * 2) (len := C.length) (by omega) (by omega)
   rw [hz, h7, List.drop_eq_nil_of_le (by omega : C.length ≤ a * 2 + (n - a) * 2), List.append_nil] at this
   rw [show (C.take (a * 2) ++ zeros q ((n - a) * 2)).length = C.length by simp [hz]; omega]
   exact this
  ·rw [List.getElem?_set_ne]
   rintro rfl
   exact hne rfl
theorem OwnK.head (h : OwnK 2 G e u n C) (ha : a < n) : OwnK 2 G e (subP u 0 a) a (C.take (a * 2)) := by
 obtain ⟨h0, h⟩ := h
 rcases h with ⟨rfl, rfl⟩ | ⟨i, off, g, c, o, rfl, h1, h2, h3, h4, h5, h6, h7⟩
 ·omega
 ·refine ⟨by simp; omega, .inr ⟨i, off, g, _, o, by simp [subP]; rfl, h1, h2, h3, h4, h5, by simp; omega, ?_⟩⟩
  rw [← h7, List.take_take]
  congr 1
  simp
  omega
end
end
section
attribute [local simp] aBin' aBin aBinI aUn aNil flatV
def rowsD (u : Value) (eo ei : TypeId) (C : List Value) (F : List (List Value)) (i j : Int) : Item := rowsAB 1 u eo ei F.length C F i.toNat j.toNat
section
variable {β : Type} {fr : β → List Value} {X : List β} {d : β} {P : Program} {G G1 H : AH} {B : Nat → Prop} {l : List Item} {u v c c1 : Value} {C zs : List Value} {F F' : List (List Value)} {xs : β} {t e eo ei : TypeId} {k kk k1 k2 a b n m : Nat} {y z i j : Int} {ki : IntKind} {q : EInfo}
theorem Sep.toD (h : Sep G B l) (hk : l[kk]? = some (rowsC u eo ei C F)) (i j : Int) : Sep G B (l.set kk (rowsD u eo ei C F i j)) := by
 have h1 : Sep G B (l.set kk (rowsAB 1 u eo ei F.length C F 0 0)) := h.turn hk fun A ⟨r, rA⟩ =>
  ⟨A, ⟨⟨by rw [← r.len]; exact r.out.k1, r.len, fun m c xs _ => r.row m c xs, fun j m c d i _ _ => r.apart j m c d i, fun m c _ hc => r.inner c (List.mem_of_getElem? hc)⟩, by simpa [those] using rA⟩, fun _ h => h⟩
 have h2 := h1.abLess (kk := kk) (a' := i.toNat) (b' := j.toNat) (List.getElem?_set_self (List.getElem?_eq_some_iff.1 hk).1) (fun m _ => .inr (by omega))
 rwa [List.set_set] at h2
theorem Sep.outD (h : Sep G B l) (hk : l[kk]? = some (rowsD u eo ei C F i j)) : SlK 1 G u F.length C ∧ C.length = F.length := ⟨(h.abF hk).out.sl, (h.abF hk).len⟩
theorem Sep.lenD (h : Sep G B l) (hk : l[kk]? = some (rowsD u eo ei C (X.map fr) i j)) (he : elemT P t = some e) : aLen P G t u = some (.int .i64 (llen X)) := by
 have := (h.outD hk).1.len he
 simpa [llen] using this
theorem Sep.idxD (h : Sep G B l) (hk : l[kk]? = some (rowsD u eo ei C (X.map fr) i j)) (he : elemT P t = some e) (hs : sizeT P e = some 1) (hi : inL X z) : aIndexAddr P G t u (.int ki z) = some (elP u z.toNat) := by
 have := (h.outD hk).1.idx (kk := ki) he hs (j := z.toNat) (by unfold inL at hi; simp; omega)
 rwa [Int.toNat_of_nonneg hi.1, Nat.mul_one] at this
theorem Sep.loadD (h : Sep G B l) (hk : l[kk]? = some (rowsD u eo ei C (X.map fr) i j)) (hs : sizeT P e = some 1) (hb : aggT P e = some false) (hi : inL X z) : aLoad P G e (elP u z.toNat) = some (gat nilV C z) := by
 obtain ⟨h1, h2⟩ := h.outD hk
 refine h1.cell hs hb (gat_get ?_)
 unfold inL at hi ⊢
 simp at h2
 omega
theorem Sep.takeD (h : Sep G B l) (hk : l[kk]? = some (rowsD u eo ei C (X.map fr) i j)) (d : β) (hi : inL X j) (hl : X.length ≤ 4294967296) (hij : i.toNat ≤ j.toNat) : Sep G B (l.set kk (rowsD u eo ei C (X.map fr) i (iadd .i64 j 1)) ++ [flat (gat nilV C j) ei (fr (gat d X j))]) := by
 have r := h.abF hk
 have hc : C[j.toNat]? = some (gat nilV C j) := gat_get (by have := r.len; unfold inL at hi ⊢; simp at this; omega)
 have hx : (X.map fr)[j.toNat]? = some (fr (gat d X j)) := by rw [List.getElem?_map, gat_get (d := d) hi]; rfl
 have := h.abTake hk hc hx hij
 unfold rowsD
 rw [step_nat hi hl]
 exact this
theorem Sep.putD (h : Sep G B l) (d1 : kk ≠ k1) (hk : l[kk]? = some (rowsD u eo ei C (X.map fr) i j)) (h1 : l[k1]? = some (flat c1 ei (fr xs))) (hN : Up B G.length) (hs : sizeT P eo = some 1) (hi : inL X i) (hij : i.toNat < j.toNat) (hl : X.length ≤ 4294967296) (ht : isTup c1 = false) (h1c : c1.cells = #[c1]) :
  ∃ G', aStore P G eo (elP u i.toNat) c1 = some G' ∧ Sep G' B ((l.set kk (rowsD u eo ei (lset C i c1) ((lset X i xs).map fr) (iadd .i64 i 1) j)).set k1 emp) ∧ AgB B G G' := by
 have r := h.abF hk
 have hCl := r.out.1
 have hkl := (List.getElem?_eq_some_iff.1 hk).1
 simp only [List.length_map] at hCl
 have hiY : i.toNat < X.length := by unfold inL at hi; omega
 obtain ⟨G1, p1, p2, p3, p4⟩ := r.out.put (P := P) (m := i.toNat) (v' := c1) (new := [c1]) hs (by simpa using hiY) ht (by rw [h1c]) rfl
 have eC : C.take (i.toNat * 1) ++ [c1] ++ C.drop (i.toNat * 1 + 1) = lset C i c1 := by
  unfold lset
  rw [List.set_eq_take_append_cons_drop, if_pos (by omega), Nat.mul_one]
  simp
 have eF : (lset X i xs).map fr = (X.map fr).set i.toNat (fr xs) := by simp [lset, List.map_set]
 rw [Nat.mul_one] at p1
 rw [eC] at p2
 have get : ∀ x, (x < i.toNat ∨ j.toNat ≤ x) → (lset C i c1)[x]? = C[x]? := fun x hx => by
  unfold lset
  rw [List.getElem?_set_ne (by omega)]
 obtain ⟨G', q, s1, s2, s3⟩ := h.step (it' := rowsAB 1 u eo ei (X.map fr).length (lset C i c1) ((lset X i xs).map fr) i.toNat j.toNat) hk hN (fun G' => G' = G1) fun A ⟨ra, rA⟩ hA => by
  subst rA
  refine ⟨G1, _, rfl, ⟨⟨p2, by simp [lset]; omega, fun m c xs hm hc hx => ?_, fun j m c d i hj hm hjm hc hd => ?_, fun m c hm hc => ?_⟩, rfl⟩, fun i hi => .inl ?_, by omega, fun i hi hm => p4 i fun hu => hm (List.mem_append_left _ (mem_ids.2 hu))⟩
  ·rw [get m hm] at hc
   rw [eF, List.getElem?_set_ne (by omega)] at hx
   exact (ra.row m c xs hm hc hx).at fun i hi => p4 i (ra.inner m c hm hc i hi)
  ·rw [get j hj] at hc
   rw [get m hm] at hd
   exact ra.apart j m c d i hj hm hjm hc hd
  ·rw [get m hm] at hc
   exact ra.inner m c hm hc
  ·rcases mem_ab.1 hi with hi | ⟨m, c, hm, hc, hi⟩
   ·exact mem_ab.2 (.inl hi)
   ·rw [get m hm] at hc
    exact mem_ab.2 (.inr ⟨m, c, hm, hc, hi⟩)
 subst q
 have s3 := s1.abGive (k1 := kk) (k2 := k1) (c := c1) d1 (List.getElem?_set_self hkl) (by rw [List.getElem?_set_ne d1, h1]) (by unfold lset; rw [List.getElem?_set_self (by omega)]) (zs := fr xs) (by rw [eF, List.getElem?_set_self (by simpa using hiY)]) (by omega)
 rw [List.set_set] at s3
 refine ⟨G', p1, ?_, s2⟩
 unfold rowsD
 rw [step_nat hi hl, show ((lset X i xs).map fr).length = (X.map fr).length by simp [lset]]
 exact s3
theorem k1_own (h : OwnK 1 G e u n C) : Own G 0 e u C := by
 obtain ⟨h0, h⟩ := h
 rw [Nat.mul_one] at h0
 rcases h with ⟨rfl, rfl⟩ | ⟨i, off, g, c, o, rfl, h1, h2, h3, h4, h5, h6, h7⟩
 ·exact .inl ⟨rfl, List.eq_nil_of_length_eq_zero h0⟩
 ·exact .inr ⟨i, off, g, c, o, Nat.zero_le _, by rw [h0], h1, h2, h3, h4, h5, h6, h7⟩
theorem subV_head (h : SlK 1 G u n C) (he : elemT P t = some e) (hs : sizeT P e = some 1) (hi : 0 ≤ i) (hn : i.toNat < n) : aSlice P G t u none (some (.int .i64 i)) none = some (subV u 0 i) := by
 obtain ⟨h0, h⟩ := h
 rcases h with ⟨rfl, rfl⟩ | ⟨b, off, g, c, o, rfl, h1, h2, h3, h4⟩
 ·omega
 ·simp [aSlice, h1, he, hs, idxV, hi, h4, subV, Nat.le_of_lt hn]
theorem subV_tail (h : SlK 1 G u n C) (he : elemT P t = some e) (hs : sizeT P e = some 1) (hi : 0 ≤ i) (hn : i.toNat < n) : aSlice P G t u (some (.int .i64 i)) none none = some (subV u i (n : Int)) := by
 obtain ⟨h0, h⟩ := h
 rcases h with ⟨rfl, rfl⟩ | ⟨b, off, g, c, o, rfl, h1, h2, h3, h4⟩
 ·omega
 ·simp [aSlice, h1, he, hs, idxV, hi, h4, subV, Nat.le_of_lt hn]
theorem OwnK.clear1 (h : OwnK 1 G e u n C) (he : elemT P t = some e) (hq : einfo P e = some q) (hq1 : q.size = 1) (h0i : 0 ≤ i) (ha : i.toNat < n) :
  ∃ G' D, aClear P G t (subV u i (n : Int)) = some (.tuple #[], G') ∧ OwnK 1 G' e u n (C.take i.toNat ++ D) ∧ G'.length = G.length ∧ ∀ i, idOf u ≠ some i → G'[i]? = G[i]? := by
 obtain ⟨h0, h⟩ := h
 rcases h with ⟨rfl, rfl⟩ | ⟨b, off, g, c, o, rfl, h1, h2, h3, h4, h5, h6, h7⟩
 ·omega
 ·have hal : alive G b g = some o := by simp [alive, h1, h2]
  have hlt := (List.getElem?_eq_some_iff.1 h1).1
  have hz : (zeros q (n - i.toNat)).length = n - i.toNat := by simp [zeros]
  simp only [subV, aClear, he, hal, hq, hq1, Int.toNat_natCast, Nat.mul_one]
  rw [if_neg (by omega), if_pos ⟨h5, by omega⟩]
  refine ⟨_, zeros q (n - i.toNat), rfl, ⟨by simp [hz]; omega, .inr ⟨b, off, g, c, _, rfl, List.getElem?_set_self hlt, h2, h3, h4, h5, by simp [hz]; omega, ?_⟩⟩, by simp, fun j hne => ?_⟩
  ·have := putL (L := o.cells) (new := zeros q (n - i.toNat)) (off := off) (a := i.toNat) (len := C.length) (by omega) (by omega)
   rw [hz, h7, List.drop_eq_nil_of_le (by omega : C.length ≤ i.toNat + (n - i.toNat)), List.append_nil] at this
   rw [show (C.take i.toNat ++ zeros q (n - i.toNat)).length = C.length by simp [hz]; omega]
   exact this
  ·rw [List.getElem?_set_ne]
   rintro rfl
   exact hne rfl
theorem OwnK.head1 (h : OwnK 1 G e u n C) (h0i : 0 ≤ i) (ha : i.toNat < n) : OwnK 1 G e (subV u 0 i) i.toNat (C.take i.toNat) := by
 obtain ⟨h0, h⟩ := h
 rcases h with ⟨rfl, rfl⟩ | ⟨b, off, g, c, o, rfl, h1, h2, h3, h4, h5, h6, h7⟩
 ·omega
 ·refine ⟨by simp; omega, .inr ⟨b, off, g, _, o, by simp [subV]; rfl, h1, h2, h3, h4, h5, by simp; omega, ?_⟩⟩
  rw [← h7, List.take_take]
  congr 1
  simp
  omega
theorem idOf_head1 (h : OwnK 1 G e u n C) (ha : i.toNat < n) : idOf (subV u 0 i) = idOf u := by
 obtain ⟨h0, h⟩ := h
 rcases h with ⟨rfl, rfl⟩ | ⟨b, off, g, c, o, rfl, h1⟩
 ·omega
 ·rfl
theorem Sep.clearD (h : Sep G B l) (hk : l[kk]? = some (rowsD u eo ei C (X.map fr) i j)) (hN : Up B G.length) (he : elemT P t = some eo) (hq : einfo P eo = some q) (hq1 : q.size = 1) (hi : inL X i) (hj : j = llen X) :
  ∃ G' D, aClear P G t (subV u i (llen X)) = some (.tuple #[], G') ∧ Sep G' B (l.set kk (rowsD u eo ei D (X.map fr) i j)) ∧ AgB B G G' := by
 have r := h.abF hk
 have hCl := r.out.1
 simp only [List.length_map] at hCl
 have hiY : i.toNat < X.length := by unfold inL at hi; omega
 obtain ⟨G1, D, p1, p2, p3, p4⟩ := r.out.clear1 (P := P) (i := i) he hq hq1 hi.1 (by simpa using hiY)
 have hDl := p2.1
 simp only [List.length_map] at hDl p1
 have jl : j.toNat = X.length := by subst hj; simp [llen]
 have get : ∀ x : Nat, (x < i.toNat ∨ j.toNat ≤ x) → (C.take i.toNat ++ D)[x]? = C[x]? := fun x hx => by
  rcases hx with hx | hx
  ·rw [List.getElem?_append_left (by simp; omega), List.getElem?_take_of_lt hx]
  ·rw [List.getElem?_eq_none (by omega), List.getElem?_eq_none (by omega)]
 obtain ⟨G', q', s1, s2, s3⟩ := h.step (it' := rowsD u eo ei (C.take i.toNat ++ D) (X.map fr) i j) hk hN (fun G' => G' = G1) fun A ⟨ra, rA⟩ hA => by
  subst rA
  refine ⟨G1, _, rfl, ⟨⟨p2, by rw [hDl]; simp, fun m c xs hm hc hx => ?_, fun j m c d i hj hm hjm hc hd => ?_, fun m c hm hc => ?_⟩, rfl⟩, fun i hi => .inl ?_, by omega, fun i hi hm => p4 i fun hu => hm (List.mem_append_left _ (mem_ids.2 hu))⟩
  ·rw [get m hm] at hc
   exact (ra.row m c xs hm hc hx).at fun i hi => p4 i (ra.inner m c hm hc i hi)
  ·rw [get j hj] at hc
   rw [get m hm] at hd
   exact ra.apart j m c d i hj hm hjm hc hd
  ·rw [get m hm] at hc
   exact ra.inner m c hm hc
  ·rcases mem_ab.1 hi with hi | ⟨m, c, hm, hc, hi⟩
   ·exact mem_ab.2 (.inl hi)
   ·rw [get m hm] at hc
    exact mem_ab.2 (.inr ⟨m, c, hm, hc, hi⟩)
 subst q'
 exact ⟨G', _, p1, s1, s2⟩
theorem Sep.headD (h : Sep G B l) (hk : l[kk]? = some (rowsD u eo ei C (X.map fr) i j)) (hi : inL X i) : Sep G B (l.set kk (rowsC (subV u 0 i) eo ei (C.take i.toNat) ((X.take i.toNat).map fr))) := h.turn hk fun A ⟨r, rA⟩ => by
 subst rA
 have hCl := r.out.1
 simp only [List.length_map] at hCl
 have hiY : i.toNat < X.length := by unfold inL at hi; omega
 have hget : ∀ (m : Nat) (c : Value), (C.take i.toNat)[m]? = some c → m < i.toNat ∧ C[m]? = some c := fun m c hm => by
  have hlt := (List.getElem?_eq_some_iff.1 hm).1
  simp at hlt
  rw [List.getElem?_take_of_lt (by omega)] at hm
  exact ⟨by omega, hm⟩
 have hid := idOf_head1 (i := i) r.out (by simpa using hiY)
 refine ⟨_, ⟨⟨k1_own (r.out.head1 hi.1 (by simpa using hiY)), by simp; omega, fun m c xs hc hx => ?_, fun j m c d i hjm hc hd => ?_, fun c hc => ?_⟩, rfl⟩, fun i hi => ?_⟩
 ·obtain ⟨hm, hc⟩ := hget m c hc
  rw [List.map_take, List.getElem?_take_of_lt hm] at hx
  exact r.row m c xs (.inl hm) hc hx
 ·obtain ⟨hj, hc⟩ := hget j c hc
  obtain ⟨hm, hd⟩ := hget m d hd
  exact r.apart j m c d i (.inl hj) (.inl hm) hjm hc hd
 ·obtain ⟨m, hm⟩ := List.getElem?_of_mem hc
  obtain ⟨hm, hc⟩ := hget m c hm
  rw [hid]
  exact r.inner m c (.inl hm) hc
 ·rcases List.mem_append.1 hi with hi | hi
  ·rw [mem_ids, hid] at hi
   exact mem_ab.2 (.inl hi)
  ·obtain ⟨c, hcC, hi⟩ := List.mem_flatMap.1 hi
   obtain ⟨m, hm⟩ := List.getElem?_of_mem hcC
   obtain ⟨hm, hc⟩ := hget m c hm
   exact mem_ab.2 (.inr ⟨m, c, .inl hm, hc, mem_ids.1 hi⟩)
theorem Sep.tailVD (h : Sep G B l) (hk : l[kk]? = some (rowsD u eo ei C (X.map fr) i j)) (he : elemT P t = some e) (hs : sizeT P e = some 1) (hi : inL X i) : aSlice P G t u (some (.int .i64 i)) none none = some (subV u i (llen X)) := by
 have := subV_tail (h.outD hk).1 he hs hi.1 (by unfold inL at hi; simp; omega)
 simpa [llen] using this
theorem Sep.headVD (h : Sep G B l) (hk : l[kk]? = some (rowsD u eo ei C (X.map fr) i j)) (he : elemT P t = some e) (hs : sizeT P e = some 1) (hi : inL X i) : aSlice P G t u none (some (.int .i64 i)) none = some (subV u 0 i) :=
 subV_head (h.outD hk).1 he hs hi.1 (by unfold inL at hi; simp; omega)
end
end
section
attribute [local simp] aBin' aBin aBinI aUn aNil flatV
theorem Bx.later {G G1 : AH} {B : Nat → Prop} {p : Value} {cells : List Value} (h : ∃ F, (AL.box p cells).P G F ∧ ∀ i ∈ F, ¬ B i) (a : AgB B G G1) : Bx G1 p cells := by
 obtain ⟨F, ⟨i, ⟨e, o, b, c⟩, rfl⟩, h2⟩ := h
 exact ⟨i, e, o, (a.2 i (h2 i (by simp))).trans b, c⟩
end
section
attribute [local simp] aBin' aBin aBinI aUn aNil flatV
abbrev I2 := Int × Int
def ce (p : I2) : List Value := [.int .i64 p.1, .int .i64 p.2]
def ces (X : List I2) : List Value := X.flatMap ce
def i2 : I2 := (0, 0)
theorem ces_app (X Y : List I2) : ces (X ++ Y) = ces X ++ ces Y := by
 unfold ces
 exact List.flatMap_append
theorem ces_at : ∀ (X : List I2) (j : Nat), j < X.length → ((ces X).drop (j * 2)).take 2 = ce (X.getD j i2)
 | x :: X, 0, _ => by simp [ces, ce]
 | x :: X, j + 1, h => by
  have := ces_at X j (by simpa using h)
  rw [show ces (x :: X) = ce x ++ ces X from List.flatMap_cons, show (j + 1) * 2 = (ce x).length + j * 2 by simp [ce]; omega, List.drop_append, List.drop_of_length_le (Nat.le_add_right _ _), List.nil_append, Nat.add_sub_cancel_left, this]
  simp
theorem ces_set : ∀ (X : List I2) (j : Nat) (y : I2), j < X.length → ces (X.set j y) = (ces X).take (j * 2) ++ ce y ++ (ces X).drop (j * 2 + 2)
 | x :: X, 0, y, _ => by simp [ces, ce]
 | x :: X, j + 1, y, h => by
  have := ces_set X j y (by simpa using h)
  rw [show ces (x :: X) = ce x ++ ces X from List.flatMap_cons, List.set_cons_succ, show ces (x :: X.set j y) = ce x ++ ces (X.set j y) from List.flatMap_cons, this]
  simp [ce, show (j + 1) * 2 = j * 2 + 2 by omega]
def flatI (u : Value) (e : TypeId) (X : List I2) : Item := flatK 2 u e X.length (ces X)
def SlI (G : AH) (v : Value) (X : List I2) : Prop := SlK 2 G v X.length (ces X)
section
variable {P : Program} {G G1 H : AH} {B : Nat → Prop} {l : List Item} {u v s : Value} {X Y : List I2} {t t2 e : TypeId} {j k : Nat} {q : EInfo} {n : Int} {kk : IntKind} {a b : Int}
theorem SlI.agree (h : SlI G v X) (a : Agree G.length G G1) : SlI G1 v X := SlK.agree h a
theorem SlI.agr (h : SlI H v X) (a : AgB B H G) (hd : ∀ i, idOf v = some i → ¬ B i) : SlI G v X := by
 obtain ⟨h0, h⟩ := h
 refine ⟨h0, ?_⟩
 rcases h with h | ⟨i, off, g, c, o, rfl, h1, h2⟩
 ·exact .inl h
 ·obtain ⟨a1, a2⟩ := alive_some h1
  exact .inr ⟨i, off, g, c, o, rfl, by simp [alive, a.2 i (hd i rfl), a1, a2], h2⟩
theorem SlI.id_lt (h : SlI G v X) {i : Nat} (hi : idOf v = some i) : i < G.length := by
 obtain ⟨h0, h⟩ := h
 rcases h with ⟨rfl, _⟩ | ⟨i', off, g, c, o, rfl, h1, _⟩
 ·simp [idOf] at hi
 ·simp [idOf] at hi
  subst hi
  exact (List.getElem?_eq_some_iff.1 (alive_some h1).1).1
theorem SlI.tup (h : SlI G v X) : isTup v = false := SlK.tup h
theorem SlI.one (h : SlI G v X) : v.cells = #[v] := SlK.one h
theorem SlI.nil : SlI G nilV [] := ⟨rfl, .inl ⟨rfl, rfl⟩⟩
theorem SlI.lenG (h : SlI G v X) (he : elemT P t = some e) : aLen P G t v = some (.int .i64 (llen X)) := SlK.len h he
theorem SlI.idxG (h : SlI G v X) (he : elemT P t = some e) (hs : sizeT P e = some 2) (hi : inL X n) : aIndexAddr P G t v (.int kk n) = some (elP v (n.toNat * 2)) := by
 have := SlK.idx (kk := kk) h he hs (j := n.toNat) (by unfold inL at hi; omega)
 rwa [Int.toNat_of_nonneg hi.1] at this
theorem SlI.loadG (h : SlI G v X) (hs : sizeT P e = some 2) (hb : aggT P e = some true) (hi : inL X n) : aLoad P G e (elP v (n.toNat * 2)) = some (.agg #[.int .i64 (gat i2 X n).1, .int .i64 (gat i2 X n).2]) := by
 have hj : n.toNat < X.length := by unfold inL at hi; omega
 rw [SlK.agg h hs hb hj, ces_at X _ hj, ← gat_eq]
 rfl
theorem Sep.ownI (h : Sep G B l) (hk : l[k]? = some (flatI u e X)) : OwnK 2 G e u X.length (ces X) := by
 obtain ⟨A, h1, _⟩ := h.get hk
 exact h1.1
theorem Sep.slI (h : Sep G B l) (hk : l[k]? = some (flatI u e X)) : SlI G u X := (h.ownI hk).sl
theorem Sep.litI0 (h : Sep G B l) (hN : Up B G.length) (he : elemT P t = some e) (hq : einfo P e = some q) (hq1 : q.size = 2) :
  ∃ v G', aBuildSlice P G t 0 [] = some (v, G') ∧ Sep G' B (l ++ [flatI v e []]) ∧ Agree G.length G G' ∧ isTup v = false ∧ v.cells = #[v] := by
 refine ⟨.slice (some ⟨G.length, 0, some 0⟩) 0 0, G ++ [⟨[], e, 2, 0, false⟩], by simp [aBuildSlice, he, hq, hq1, noTup, fillL, zeros, aNew], ?_, Agree.app _ _, rfl, rfl⟩
 exact h.new (it := flatI (.slice (some ⟨G.length, 0, some 0⟩) 0 0) e []) hN ⟨⟨rfl, .inr ⟨G.length, 0, 0, 0, ⟨[], e, 2, 0, false⟩, rfl, by simp, rfl, rfl, rfl, rfl, by simp [ces], by simp [ces]⟩⟩, by simp [ids, idOf]⟩ (by simp)
theorem Sep.litI1 (h : Sep G B l) (hN : Up B G.length) (he : elemT P t = some e) (hq : einfo P e = some q) (hq1 : q.size = 2) (a b : Int) :
  ∃ v G', aBuildSlice P G t 1 [(0, .agg #[.int .i64 a, .int .i64 b])] = some (v, G') ∧ Sep G' B (l ++ [flatI v e [(a, b)]]) ∧ Agree G.length G G' ∧ isTup v = false ∧ v.cells = #[v] :=
 h.litP1 hN he hq hq1 (.int .i64 a) (.int .i64 b)
theorem Sep.pushI (h : Sep G B l) (hk : l[k]? = some (flatI u e X)) (hN : Up B G.length) (he : elemT P t = some e) (he2 : elemT P t2 = some e) (hq : einfo P e = some q) (hq1 : q.size = 2) (hs : SlI G s Y) (hY : 0 < Y.length) (hb : X.length + Y.length ≤ 4294967296) :
  ∃ v' G', aAppend P G t t2 u s = some (v', G') ∧ Sep G' B (l.set k (flatI v' e (lapp X Y))) ∧ AgB B G G' ∧ isTup v' = false ∧ v'.cells = #[v'] := by
 have hd : srcD P t2 = true := by unfold srcD; rw [elemT_some he2]
 have ho := h.ownI hk
 obtain ⟨v', G1, a, b, c, d, e5⟩ := ho.apx (by omega) he hq hq1 hd hs hY hb
 have b' : OwnK 2 G1 e v' (lapp X Y).length (ces (lapp X Y)) := by
  unfold lapp
  rw [ces_app, List.length_append]
  exact b
 obtain ⟨G', r, s1, s2, s3⟩ := h.step (it' := flatI v' e (lapp X Y)) hk hN (fun G' => G' = G1) fun F ⟨p, pF⟩ hF => by
  refine ⟨G1, ids v', rfl, ⟨b', rfl⟩, fun i hi => ?_, c, fun i hi hm => d i hi fun hu => hm (by rw [pF]; exact mem_ids.2 hu)⟩
  rw [mem_ids] at hi
  rcases e5 with e5 | ⟨e5, e6⟩
  ·rw [pF]; exact .inl (mem_ids.2 (e5 ▸ hi))
  ·rw [e5] at hi
   simp at hi
   exact .inr (by omega)
 subst r
 exact ⟨v', G', a, s1, s2, b'.sl.tup, b'.sl.one⟩
theorem Sep.putI (h : Sep G B l) (hk : l[k]? = some (flatI u e X)) (hN : Up B G.length) (hs : sizeT P e = some 2) (hi : inL X n) :
  ∃ G', aStore P G e (elP u (n.toNat * 2)) (.agg #[.int .i64 a, .int .i64 b]) = some G' ∧ Sep G' B (l.set k (flatI u e (lset X n (a, b)))) ∧ AgB B G G' := by
 have hj : n.toNat < X.length := by unfold inL at hi; omega
 have ho := h.ownI hk
 obtain ⟨G1, p1, p2, p3, p4⟩ := ho.put (P := P) (v' := .agg #[.int .i64 a, .int .i64 b]) (new := ce (a, b)) hs hj rfl rfl rfl
 have p2' : OwnK 2 G1 e u (lset X n (a, b)).length (ces (lset X n (a, b))) := by
  unfold lset
  rw [ces_set X _ _ hj, List.length_set]
  exact p2
 obtain ⟨G', r, s1, s2, s3⟩ := h.step (it' := flatI u e (lset X n (a, b))) hk hN (fun G' => G' = G1) fun F ⟨p, pF⟩ hF =>
  ⟨G1, ids u, rfl, ⟨p2', rfl⟩, fun i hi => .inl (by rw [pF]; exact hi), by omega, fun i hi hm => p4 i fun hu => hm (by rw [pF]; exact mem_ids.2 hu)⟩
 subst r
 exact ⟨G', p1, s1, s2⟩
def arrV (p : Value) (n : Nat) : Value := match p with
 | .pointer (some ⟨i, o, some g⟩) => .slice (some ⟨i, o, some g⟩) n n
 | v => v
theorem BoxAt.arr {p : Value} {cells : List Value} {i n : Nat} (h : BoxAt G p cells i) (hu : P.underlying t = some (.array n e)) (hs : sizeT P e = some 1) (hn : cells.length = n) : aSlice P G t p none none none = some (arrV p n) ∧ Sl G (arrV p n) cells := by
 obtain ⟨rfl, o, h1, h2, rfl, h3, hz⟩ := h
 have ha : alive G i 0 = some o := by simp [alive, h1, h2]
 refine ⟨?_, .inr ⟨i, 0, 0, n, o, by simp [arrV, ptrAt, hn], ha, by simp, by simp, hz⟩⟩
 simp [ptrAt, aSlice, ha, hu, hs, hz, hn, arrV]
theorem Sep.arrS {p : Value} {cells : List Value} {n : Nat} (h : Sep G B l) (hk : l[k]? = some (AL.box p cells)) (hu : P.underlying t = some (.array n e)) (hs : sizeT P e = some 1) (hn : cells.length = n) : aSlice P G t p none none none = some (arrV p n) ∧ Sl G (arrV p n) cells := by
 obtain ⟨i, hi, _⟩ := h.boxAt hk
 exact hi.arr hu hs hn
theorem Sep.arrI {p : Value} {cells : List Value} {m n : Nat} (h : Sep G B l) (hk : l[k]? = some (AL.box p cells)) (hu : P.underlying t = some (.array m e)) (hs : sizeT P e = some 1) (hn : n < m) : aIndexAddr P G t p (.int kk (n : Int)) = some (fldP p n) := by
 obtain ⟨i, ⟨rfl, o, h1, h2, rfl, _⟩, _⟩ := h.boxAt hk
 have ha : alive G i 0 = some o := by simp [alive, h1, h2]
 have : (n : Int) < (m : Int) := by omega
 simp [ptrAt, aIndexAddr, ha, hu, hs, this, fldP]
theorem buildA2 {z x y : Value} (hp : placeT P t = some (z, fun i => some (i * 1, 1))) (hz : constV z = true) (hl : z.cells.toList.length = 2) (hx : isTup x = false) (hc : x.cells = #[x]) (hy : isTup y = false) (hcy : y.cells = #[y]) : aBuild P t [(0, x), (1, y)] = some (.agg #[x, y]) := by
 have hn : noTup [(0, x), (1, y)] = true := by
  unfold noTup
  simpa using ⟨hx, hy⟩
 unfold aBuild
 rw [hp]
 simp only [hz, hn, and_self, if_true]
 match hzc : z.cells.toList, hl with
 | [z0, z1], _ => simp [fillL, hc, hcy]
end
end
section
attribute [local simp] aBin' aBin aBinI aUn aNil flatV
def lins {α : Type} (X : List α) (i : Int) (y : α) : List α := X.take i.toNat ++ [y] ++ X.drop i.toNat
def cins (C : List Value) (i : Int) (c : Value) : List Value := C.take i.toNat ++ [c] ++ C.drop i.toNat
theorem ins_get {α : Type} {L : List α} {y : α} {a m : Nat} (h : a ≤ L.length) : (L.take a ++ [y] ++ L.drop a)[m]? = if m < a then L[m]? else if m = a then some y else L[m - 1]? := by
 rw [List.append_assoc, List.getElem?_append]
 have hl : (L.take a).length = a := by simp; omega
 rw [hl]
 by_cases h1 : m < a
 ·rw [if_pos h1, if_pos h1, List.getElem?_take_of_lt h1]
 ·rw [if_neg h1, if_neg h1]
  by_cases h2 : m = a
  ·subst h2
   simp
  ·rw [if_neg h2, List.getElem?_append_right (by simp; omega), List.getElem?_drop]
   congr 1
   simp
   omega
section
variable {β : Type} {fr : β → List Value} {X : List β} {y : β} {P : Program} {G G1 H : AH} {B : Nat → Prop} {l : List Item} {u v c s : Value} {C cells new : List Value} {F : List (List Value)} {t t2 e eo ei : TypeId} {j k w : Nat} {q : EInfo} {a b : Int}
theorem Sep.rawOf0 (h : Sep G B l) (hk : l[k]? = some (rowsC u eo ei [] F)) : Sep G B (l.set k (flat u eo [])) := h.turn hk fun A ⟨r, rA⟩ =>
 ⟨A, ⟨r.out, by simpa using rA⟩, fun _ h => h⟩
theorem RdC.raw01 (h : RdC G v C (X.map fr)) (he : elemT P t = some e) (hs : sizeT P e = some 1) (hg : subL X 0 b) : aSlice P G t v none (some (.int .i64 b)) none = some (subV v 0 b) ∧ Sl G (subV v 0 b) (C.take b.toNat) := by
 have hl := h.len
 have hs1 : Sl G v (C.map id) := by simpa using h.out
 have hg1 : subL C 0 b := by unfold subL at hg ⊢; simp at hl; omega
 refine ⟨aSub01 hs1 he hs hg1, ?_⟩
 have := subSl hs1 hg1
 simpa [lsub] using this
theorem RdC.raw10 (h : RdC G v C (X.map fr)) (he : elemT P t = some e) (hs : sizeT P e = some 1) (hg : subL X a (llen X)) : aSlice P G t v (some (.int .i64 a)) none none = some (subV v a (llen X)) ∧ Sl G (subV v a (llen X)) (C.drop a.toNat) := by
 have hl := h.len
 have hx : llen X = llen C := by simp [llen] at hl ⊢; omega
 rw [hx] at hg ⊢
 have hs1 : Sl G v (C.map id) := by simpa using h.out
 have hg1 : subL C a (llen C) := by unfold subL llen at hg ⊢; simp at hl; omega
 refine ⟨aSub10 hs1 he hs hg1, ?_⟩
 have h2 := subSl hs1 hg1
 have e : (C.drop a.toNat).take (C.length - a.toNat) = C.drop a.toNat := List.take_of_length_le (by simp)
 simpa [lsub, llen, e] using h2
theorem Sep.appR (h : Sep G B l) (hk : l[k]? = some (flat u eo cells)) (hN : Up B G.length) (he : elemT P t = some eo) (he2 : elemT P t2 = some eo) (hq : einfo P eo = some q) (hq1 : q.size = 1) (hs : Sl G s new) (hb : cells.length + new.length ≤ 4294967296) :
  ∃ v' G', aAppend P G t t2 u s = some (v', G') ∧ Sep G' B (l.set k (flat v' eo (cells ++ new))) ∧ AgB B G G' ∧ isTup v' = false ∧ v'.cells = #[v'] := by
 obtain ⟨v', G', a, b, c, d, g⟩ := h.append hk hN he he2 hq hq1 hs hb
 have hk' : (l.set k (flat v' eo (cells ++ new)))[k]? = some (flat v' eo (cells ++ new)) := List.getElem?_set_self (List.getElem?_eq_some_iff.1 hk).1
 exact ⟨v', G', a, b, c, g, (b.sl hk').one⟩
theorem Sep.ins1 (h : Sep G B l) (hk : l[k]? = some (flat u eo [])) (hj : l[j]? = some (rowsC v eo ei C (X.map fr))) (hN : Up B G.length) (he : elemT P t = some eo) (he2 : elemT P t2 = some eo) (hq : einfo P eo = some q) (hq1 : q.size = 1) (hs : Sl G s (C.take b.toNat)) (hb : X.length + 1 ≤ 4294967296) :
  ∃ v' G', aAppend P G t t2 u s = some (v', G') ∧ Sep G' B (l.set k (flat v' eo (C.take b.toNat))) ∧ AgB B G G' ∧ isTup v' = false ∧ v'.cells = #[v'] := by
 have hl := (h.rd hj).len
 simp at hl
 exact h.appR hk hN he he2 hq hq1 hs (by simp; omega)
theorem Sep.ins2 (h : Sep G B l) (hk : l[k]? = some (flat u eo (C.take b.toNat))) (hj : l[j]? = some (rowsC v eo ei C (X.map fr))) (hN : Up B G.length) (he : elemT P t = some eo) (he2 : elemT P t2 = some eo) (hq : einfo P eo = some q) (hq1 : q.size = 1) (hs : Sl G s [c]) (hb : X.length + 1 ≤ 4294967296) :
  ∃ v' G', aAppend P G t t2 u s = some (v', G') ∧ Sep G' B (l.set k (flat v' eo (C.take b.toNat ++ [c]))) ∧ AgB B G G' ∧ isTup v' = false ∧ v'.cells = #[v'] := by
 have hl := (h.rd hj).len
 simp at hl
 exact h.appR hk hN he he2 hq hq1 hs (by simp; omega)
theorem Sep.ins3 (h : Sep G B l) (hk : l[k]? = some (flat u eo (C.take b.toNat ++ [c]))) (hj : l[j]? = some (rowsC v eo ei C (X.map fr))) (hN : Up B G.length) (he : elemT P t = some eo) (he2 : elemT P t2 = some eo) (hq : einfo P eo = some q) (hq1 : q.size = 1) (hs : Sl G s (C.drop b.toNat)) (hb : X.length + 1 ≤ 4294967296) :
  ∃ v' G', aAppend P G t t2 u s = some (v', G') ∧ Sep G' B (l.set k (flat v' eo (cins C b c))) ∧ AgB B G G' ∧ isTup v' = false ∧ v'.cells = #[v'] := by
 have hl := (h.rd hj).len
 simp at hl
 exact h.appR hk hN he he2 hq hq1 hs (by simp; omega)
theorem Sep.rowsIns (h : Sep G B l) (d1 : w ≠ j) (d2 : w ≠ k) (d3 : j ≠ k) (hw : l[w]? = some (flat v eo (cins C b c))) (hj : l[j]? = some (rowsC u eo ei C (X.map fr))) (hk : l[k]? = some (flat c ei (fr y))) (hg : subL X 0 b) :
  Sep G B (((l.set w (rowsC v eo ei (cins C b c) ((lins X b y).map fr))).set j emp).set k emp) := by
 have wl := (List.getElem?_eq_some_iff.1 hw).1
 have h1 := h.join d1 hw hj
 have hw1 : ((l.set w (star (flat v eo (cins C b c)) (rowsC u eo ei C (X.map fr)))).set j emp)[w]? = some (star (flat v eo (cins C b c)) (rowsC u eo ei C (X.map fr))) := by
  rw [List.getElem?_set_ne (fun e => d1 e.symm), List.getElem?_set_self wl]
 have hk1 : ((l.set w (star (flat v eo (cins C b c)) (rowsC u eo ei C (X.map fr)))).set j emp)[k]? = some (flat c ei (fr y)) := by
  rw [List.getElem?_set_ne d3, List.getElem?_set_ne d2, hk]
 have h2 := h1.join d2 hw1 hk1
 have hw2 : ((((l.set w (star (flat v eo (cins C b c)) (rowsC u eo ei C (X.map fr)))).set j emp).set w (star (star (flat v eo (cins C b c)) (rowsC u eo ei C (X.map fr))) (flat c ei (fr y)))).set k emp)[w]? = some (star (star (flat v eo (cins C b c)) (rowsC u eo ei C (X.map fr))) (flat c ei (fr y))) := by
  rw [List.getElem?_set_ne (fun e => d2 e.symm), List.getElem?_set_self (by simpa using wl)]
 have h3 := h2.turn (it' := rowsC v eo ei (cins C b c) ((lins X b y).map fr)) hw2 fun A ⟨A0, A3, eA, ⟨A1, A2, eB, ⟨ow, oA⟩, ⟨r, rA⟩, dd1⟩, ⟨x, xA⟩, dd2⟩ => by
  subst oA rA xA eB eA
  have hl := r.len
  simp at hl
  have ha : b.toNat ≤ C.length := by unfold subL at hg; omega
  have hx : (lins X b y).map fr = (X.map fr).take b.toNat ++ [fr y] ++ (X.map fr).drop b.toNat := by simp [lins, List.map_take, List.map_drop]
  have hax : b.toNat ≤ (X.map fr).length := by simp; omega
  have src : ∀ (m : Nat) (z : Value), (cins C b c)[m]? = some z → (m = b.toNat ∧ z = c) ∨ (m < b.toNat ∧ C[m]? = some z) ∨ (b.toNat < m ∧ C[m - 1]? = some z) := fun m z hz => by
   unfold cins at hz
   rw [ins_get ha] at hz
   by_cases e1 : m < b.toNat
   ·rw [if_pos e1] at hz; exact .inr (.inl ⟨e1, hz⟩)
   ·rw [if_neg e1] at hz
    by_cases e2 : m = b.toNat
    ·rw [if_pos e2] at hz; cases hz; exact .inl ⟨e2, rfl⟩
    ·rw [if_neg e2] at hz; exact .inr (.inr ⟨by omega, hz⟩)
  have inC : ∀ (m : Nat) (z : Value), C[m]? = some z → ∀ i, idOf z = some i → i ∈ ids u ++ C.flatMap ids := fun m z hz i hi =>
   List.mem_append_right _ (List.mem_flatMap.2 ⟨z, List.mem_of_getElem? hz, mem_ids.2 hi⟩)
  have cC : ∀ (m : Nat) (z : Value), C[m]? = some z → ∀ i, idOf z = some i → idOf c ≠ some i := fun m z hz i hi hc =>
   dd2 i (List.mem_append_right _ (inC m z hz i hi)) (mem_ids.2 hc)
  refine ⟨ids v ++ (cins C b c).flatMap ids, ⟨⟨ow, by rw [hx]; simp [cins]; omega, fun m z xs hz hy => ?_, fun p m z z' i hpm hz hz' hi hi' => ?_, fun z hz i hi hv => ?_⟩, rfl⟩, fun i hi => ?_⟩
  ·rw [hx, ins_get hax] at hy
   rcases src m z hz with ⟨rfl, rfl⟩ | ⟨e1, hz⟩ | ⟨e1, hz⟩
   ·rw [if_neg (by omega), if_pos rfl] at hy
    cases hy
    exact x
   ·rw [if_pos e1] at hy
    exact r.row m z xs hz hy
   ·rw [if_neg (by omega), if_neg (by omega)] at hy
    exact r.row _ z xs hz hy
  ·rcases src p z hz with ⟨e0, rfl⟩ | ⟨e1, hz1⟩ | ⟨e1, hz1⟩
   ·rcases src m z' hz' with ⟨e2, _⟩ | ⟨e2, hz2⟩ | ⟨e2, hz2⟩
    ·omega
    ·omega
    ·exact cC _ z' hz2 i hi' hi
   ·rcases src m z' hz' with ⟨e2, e3⟩ | ⟨e2, hz2⟩ | ⟨e2, hz2⟩
    ·rw [e3] at hi'
     exact cC _ z hz1 i hi hi'
    ·exact r.apart p m z z' i hpm hz1 hz2 hi hi'
    ·exact r.apart p (m - 1) z z' i (by omega) hz1 hz2 hi hi'
   ·rcases src m z' hz' with ⟨e2, _⟩ | ⟨e2, hz2⟩ | ⟨e2, hz2⟩
    ·omega
    ·omega
    ·exact r.apart (p - 1) (m - 1) z z' i (by omega) hz1 hz2 hi hi'
  ·obtain ⟨m, hm⟩ := List.getElem?_of_mem hz
   rcases src m z hm with ⟨_, e3⟩ | ⟨e1, hz1⟩ | ⟨e1, hz1⟩
   ·rw [e3] at hi
    exact dd2 i (List.mem_append_left _ (mem_ids.2 hv)) (mem_ids.2 hi)
   ·exact dd1 i (mem_ids.2 hv) (inC _ z hz1 i hi)
   ·exact dd1 i (mem_ids.2 hv) (inC _ z hz1 i hi)
  ·rcases List.mem_append.1 hi with hi1 | hi1
   ·exact List.mem_append_left _ (List.mem_append_left _ hi1)
   ·obtain ⟨z, hz, hi2⟩ := List.mem_flatMap.1 hi1
    obtain ⟨m, hm⟩ := List.getElem?_of_mem hz
    rcases src m z hm with ⟨_, e3⟩ | ⟨e1, hz1⟩ | ⟨e1, hz1⟩
    ·rw [e3] at hi2
     exact List.mem_append_right _ hi2
    ·exact List.mem_append_left _ (List.mem_append_right _ (inC _ z hz1 i (mem_ids.1 hi2)))
    ·exact List.mem_append_left _ (List.mem_append_right _ (inC _ z hz1 i (mem_ids.1 hi2)))
 have e : ((((l.set w (star (flat v eo (cins C b c)) (rowsC u eo ei C (X.map fr)))).set j emp).set w (star (star (flat v eo (cins C b c)) (rowsC u eo ei C (X.map fr))) (flat c ei (fr y)))).set k emp).set w (rowsC v eo ei (cins C b c) ((lins X b y).map fr)) = ((l.set w (rowsC v eo ei (cins C b c) ((lins X b y).map fr))).set j emp).set k emp := by
  apply List.ext_getElem?
  intro i
  simp only [List.getElem?_set]
  by_cases e1 : w = i
  ·subst e1
   simp [d1.symm, d2.symm]
  ·by_cases e2 : j = i
   ·subst e2
    simp [e1, d3.symm]
   ·by_cases e3 : k = i
    ·subst e3; simp [e1]
    ·simp [e1, e2, e3]
 rw [e] at h3
 exact h3
theorem gat_last {α : Type} {d x : α} {C : List α} {n : Int} (h : n = (C.length : Int)) : gat d (C ++ [x]) n = x := by
 subst h
 simp [gat_eq]
theorem inL_last {α : Type} {X : List α} {x : α} : inL (lapp X [x]) (llen X) := by
 unfold inL lapp llen
 simp
 omega
theorem Sep.lastV (h : Sep G B l) (hk : l[k]? = some (rowsC u eo ei (C ++ [c]) ((lapp X [y]).map fr))) : gat nilV (C ++ [c]) (llen X) = c := by
 have := (h.rd hk).len
 simp [lapp] at this
 exact gat_last (by simp [llen, this])
end
end
section
section
variable {P : Program} {nt : Nat} {env : Env} {H : AH} {Q : Exit → Env → AH → Prop} {id : Nat} {ops : Array Oper} {y : Code}
theorem DWp.sr (h : ∀ K : Env → AH → Prop, (∀ env H, DWp P nt y Q env H → K env H) → ARunD P nt ops 0 K 0 ops.toList env H) : DWp P nt (.seq (.region id ops false) y) Q env H := DWp.seq (DWp.region h)
theorem DWp.sd {B : List Nat} (k : Nat) (hm : P.follows .mixedOrders = true) (hc : chk ops B k = true) (hk : k ≤ ops.size) (h : ∀ K : Env → AH → Prop, (∀ env H, DWp P nt y Q env H → K env H) → ARunD P nt ops k K 0 ops.toList env H) : DWp P nt (.seq (.region id ops true) y) Q env H := DWp.seq (DWp.drawn k hm hc hk h)
theorem DWp.sl {B : List Nat} {X0 : List Nat} {π σ : List Nat} (k : Nat) (K : Nat → Bool) (N : Option Nat) (hm : P.follows .mixedOrders = true) (hp : okP ops.size π σ = true) (hc : chkL (rlL π σ ops.toList).toArray B k X0 = true) (hk : k ≤ ops.size)
  (h : ∀ NN : Env → AH → Prop, (∀ env H, DWp P nt y Q env H → NN env H) → ARunL P nt (rl0 π σ ops.toList).toArray k K N X0 NN 0 (rl0 π σ ops.toList) env H) : DWp P nt (.seq (.region id ops true) y) Q env H := DWp.seq (DWp.drawn0 k K N hm hp hc hk h)
end
end
section
section
variable {P : Program} {G G1 H : AH} {B : Nat → Prop} {l : List Item} {u v s : Value} {cells : List Value} {t t2 e : TypeId} {j k : Nat} {q : EInfo}
theorem build1of {z x z0 : Value} {zs : List Value} {pl : Nat → Option (Nat × Nat)} (hp : placeT P t = some (z, pl)) (hz : constV z = true) (hl : z.cells.toList = z0 :: zs) (h0 : pl 0 = some (0, 1)) (hx : isTup x = false) (hc : x.cells = #[x]) : aBuild P t [(0, x)] = some (.agg (x :: zs).toArray) := by
 have hn : noTup [(0, x)] = true := by
  unfold noTup
  simpa using hx
 unfold aBuild
 rw [hp]
 simp only [hz, hn, and_self, if_true]
 simp [fillL, hl, h0, hc]
theorem Sep.make1 {α : Type} {f : α → Value} {i : Int} (h : Sep G B l) (hN : Up B G.length) (he : elemT P t = some e) (hq : einfo P e = some q) (hq1 : q.size = 1) (d : α) (hd : q.zero.cells.getD 0 default = f d) (hi : 0 ≤ i ∧ i ≤ 4294967296) :
  ∃ v G', aMake P G t (.int .i64 i) (.int .i64 i) = some (v, G') ∧ Sep G' B (l ++ [flat1 v e ((lrep i d).map f)]) ∧ Agree G.length G G' ∧ isTup v = false := by
 have hm : aMake P G t (.int .i64 i) (.int .i64 i) = some (.slice (some ⟨G.length, 0, some 0⟩) i.toNat i.toNat, G ++ [⟨List.replicate i.toNat (q.zero.cells.getD 0 default), e, 1, 0, false⟩]) := by
  simp only [aMake, he, hq, hq1, hi.1, hi.2, and_self, if_true, aNew]
 refine ⟨_, _, hm, ?_, Agree.app _ _, rfl⟩
 have := h.lit hN e ((List.replicate i.toNat d).map f) i.toNat
 simp only [List.length_map, List.length_replicate] at this
 rw [hd]
 unfold lrep
 simpa [List.map_replicate] using this
def lcpy {α : Type} (xs ys : List α) : List α := ys.take (Nat.min ys.length xs.length) ++ xs.drop (Nat.min ys.length xs.length)
def lfil {α : Type} (xs : List α) (d : Int) : List α := xs.take d.toNat ++ xs.take (Nat.min d.toNat (xs.length - d.toNat)) ++ xs.drop (d.toNat + Nat.min d.toNat (xs.length - d.toNat))
def ncpy {α : Type} (xs ys : List α) : Int := (Nat.min ys.length xs.length : Nat)
def nfil {α : Type} (xs : List α) (d : Int) : Int := (Nat.min d.toNat (xs.length - d.toNat) : Nat)
theorem Sep.copyS (h : Sep G B l) (hk : l[k]? = some (flat1 u e cells)) (hN : Up B G.length) {r : Value} {c' : List Value} {F : Value → Value → Option (Value × AH)} (op : Fresh G 0 e u cells → ∃ G', aCopy P G t v s = some (r, G') ∧ Fresh G' 0 e u c' ∧ G'.length = G.length ∧ ∀ i, idOf u ≠ some i → G'[i]? = G[i]?) :
  ∃ G', aCopy P G t v s = some (r, G') ∧ Sep G' B (l.set k (flat1 u e c')) ∧ AgB B G G' := by
 obtain ⟨G1, a, b, c, d⟩ := op (h.fresh hk)
 obtain ⟨G', rr, s1, s2, s3⟩ := h.step (it' := flat1 u e c') hk hN (fun G' => G' = G1) fun A ⟨p, pA⟩ hA =>
  ⟨G1, ids u, rfl, ⟨b, rfl⟩, fun i hi => .inl (by rw [pA]; exact hi), by omega, fun i hi hm => d i fun hu => hm (by rw [pA]; exact mem_ids.2 hu)⟩
 subst rr
 exact ⟨G', a, s1, s2⟩
theorem Sep.copy1 {α : Type} {f : α → Value} {xs ys : List α} (h : Sep G B l) (hk : l[k]? = some (flat1 u e (xs.map f))) (hN : Up B G.length) (he : elemT P t = some e) (hs : sizeT P e = some 1) (hv : Sl G s (ys.map f)) (hn : 0 < ys.length) :
  ∃ G', aCopy P G t u s = some (.int .i64 (ncpy xs ys), G') ∧ Sep G' B (l.set k (flat1 u e ((lcpy xs ys).map f))) ∧ AgB B G G' :=
 h.copyS (F := fun _ _ => none) hk hN fun hf => by
  obtain ⟨G', a, b, c, d⟩ := hf.copyIn (P := P) hv he hs (fun e0 => by
   subst e0
   rcases hv with ⟨_, h0⟩ | ⟨i, off, g, c, o, h0, _⟩
   ·have : ys = [] := by simpa using h0
    subst this
    simp at hn
   ·cases h0)
  refine ⟨G', ?_, ?_, c, d⟩
  ·unfold ncpy
   simpa using a
  ·unfold lcpy
   simpa [List.map_take, List.map_drop] using b
theorem Sep.firm {α : Type} {f : α → Value} {xs : List α} (h : Sep G B l) (hk : l[k]? = some (flat u e (xs.map f))) (hn : 0 < xs.length) : Sep G B (l.set k (flat1 u e (xs.map f))) := h.turn hk fun F ⟨a, b⟩ => by
 rcases a with ⟨_, h0⟩ | a
 ·have : xs = [] := by simpa using h0
  subst this
  simp at hn
 ·exact ⟨F, ⟨a, b⟩, fun _ h => h⟩
theorem Sep.fill1 {α : Type} {f : α → Value} {xs : List α} {d : Int} (h : Sep G B l) (hk : l[k]? = some (flat1 u e (xs.map f))) (hN : Up B G.length) (he : elemT P t = some e) (hs : sizeT P e = some 1) (hd : subL xs d (llen xs)) :
  ∃ G', aCopy P G t (subV u d (llen xs)) (subV u 0 d) = some (.int .i64 (nfil xs d), G') ∧ Sep G' B (l.set k (flat1 u e ((lfil xs d).map f))) ∧ AgB B G G' :=
 h.copyS (F := fun _ _ => none) hk hN fun hf => by
  have hd' := hd
  unfold subL llen at hd'
  have hsl : Sl G u (xs.map f) := h.sl1 hk
  obtain ⟨a, b, G', s1, s2, _, _, c1, c2, c3, c4⟩ := hf.fill (P := P) (d := d.toNat) he hs (by simp; omega)
  have e1 := aSub10 (P := P) hsl he hs hd
  have e2 := aSub01 (P := P) (b := d) hsl he hs (by unfold subL; omega)
  rw [Int.toNat_of_nonneg hd'.1] at s1 s2
  rw [e1] at s1
  rw [e2] at s2
  cases s1
  cases s2
  refine ⟨G', ?_, ?_, c3, c4⟩
  ·unfold nfil
   simpa using c1
  ·unfold lfil
   simpa [List.map_take, List.map_drop] using c2
end
end
section
attribute [local simp] aBin' aBin aBinI aUn aNil flatV
section
variable {P : Program} {G G0 G' H : AH} {B B' : Nat → Prop} {l l0 l1 l2 : List Item} {u v p : Value} {t e eo ei : TypeId} {j k N : Nat} {C c : List Value} {F : List (List Value)} {vs : List Value}
theorem Sep.two {it jt : Item} (h : Sep G B l) (hk : l[k]? = some it) (hj : l[j]? = some jt) (hn : k ≠ j) : ∃ F1 F2, it.P G F1 ∧ jt.P G F2 ∧ ∀ i ∈ F1, i ∉ F2 := by
 obtain ⟨F, h1, h2⟩ := h
 exact ⟨_, _, (h1 k _ hk).1, (h1 j _ hj).1, h2 k j (List.getElem?_eq_some_iff.1 hk).1 (List.getElem?_eq_some_iff.1 hj).1 hn⟩
end
end
end Go.Proofs.YtogghgecmjnieaaGreat.AL
