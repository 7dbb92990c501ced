/- AL, part 26: a row taken out of a list of lists and put back; literals told to the cap. No condition. -/
import Derived.Test.YtbckijeffiofdaaAL25
namespace Go.Proofs.Ytbckijeffiofdaa.AL
open Go Go.RowKit
set_option linter.unusedVariables false
set_option linter.unusedSimpArgs false

/-- A list of lists, one row taken out. -/
structure RowsH (G : AH) (eo ei : TypeId) (u : Value) (C : List Value) (F : List (List Value)) (m : Nat) : Prop where
  out : Own G 0 eo u C
  len : C.length = F.length
  row : ∀ (k : Nat) (c : Value) (xs : List Value), k ≠ m → C[k]? = some c → F[k]? = some xs → Own G 0 ei c xs
  apart : ∀ (j k : Nat) (c d : Value) (i : Nat), j < k → C[j]? = some c → C[k]? = some d → idOf c = some i → idOf d ≠ some i
  inner : ∀ c ∈ C, ∀ i, idOf c = some i → idOf u ≠ some i
def others (C : List Value) (m : Nat) : List Value := C.take m ++ C.drop (m + 1)
theorem mem_others {C : List Value} {m : Nat} {c : Value} : c ∈ others C m ↔ ∃ k, k ≠ m ∧ C[k]? = some c := by
  unfold others
  rw [List.mem_append]
  constructor
  · rintro (h | h)
    · obtain ⟨k, hk⟩ := List.getElem?_of_mem h
      have hlt := (List.getElem?_eq_some_iff.1 hk).1
      rw [List.getElem?_take] at hk
      simp at hlt
      rw [if_pos (by omega)] at hk
      exact ⟨k, by omega, hk⟩
    · obtain ⟨k, hk⟩ := List.getElem?_of_mem h
      rw [List.getElem?_drop] at hk
      exact ⟨m + 1 + k, by omega, hk⟩
  · rintro ⟨k, hk, hc⟩
    rcases Nat.lt_or_gt_of_ne hk with h | h
    · refine .inl (List.mem_of_getElem? (i := k) ?_)
      rw [List.getElem?_take, if_pos h, hc]
    · refine .inr (List.mem_of_getElem? (i := k - (m + 1)) ?_)
      rw [List.getElem?_drop]
      rw [show m + 1 + (k - (m + 1)) = k by omega, hc]
theorem RowsH.at {G G' : AH} {eo ei : TypeId} {u : Value} {C : List Value} {F : List (List Value)} {m : Nat} (h : RowsH G eo ei u C F m) (a : ∀ i, i ∈ ids u ++ (others C m).flatMap ids → G'[i]? = G[i]?) : RowsH G' eo ei u C F m where
  out := h.out.at fun i hi => a i (List.mem_append_left _ (mem_ids.2 hi))
  len := h.len
  row := fun k c xs hk hc hx => (h.row k c xs hk hc hx).at fun i hi => a i (List.mem_append_right _ (List.mem_flatMap.2 ⟨c, mem_others.2 ⟨k, hk, hc⟩, mem_ids.2 hi⟩))
  apart := h.apart
  inner := h.inner
def rowsX (u : Value) (eo ei : TypeId) (C : List Value) (F : List (List Value)) (m : Nat) : Item := ⟨fun G A => RowsH G eo ei u C F m ∧ A = ids u ++ (others C m).flatMap ids, fun G G' A h ⟨a, b⟩ => by
  subst b
  exact ⟨a.at h, rfl⟩⟩
section
variable {β : Type} {fr : β → List Value} {X : List β} {y : β} {P : Program} {G G1 H : AH} {B : Nat → Prop} {l l' : List Item} {u v c s : Value} {C cells new : List Value} {F : List (List Value)} {t t2 e eo ei : TypeId} {j k m : Nat} {q : EInfo} {n : Int} {kk : IntKind}
/-- One item told as two. -/
theorem Sep.split {p a b : Item} (h : Sep G B l) (hk : l[k]? = some p) (op : ∀ A, p.P G A → ∃ A1 A2, a.P G A1 ∧ b.P G A2 ∧ (∀ i ∈ A1, i ∈ A) ∧ (∀ i ∈ A2, i ∈ A) ∧ ∀ i ∈ A1, i ∉ A2) : Sep G B (l.set k a ++ [b]) := by
  obtain ⟨F, h1, h2⟩ := h
  have hkl := (List.getElem?_eq_some_iff.1 hk).1
  obtain ⟨p1, p2⟩ := h1 k p hk
  obtain ⟨A1, A2, q1, q2, q3, q4, q5⟩ := op (F k) p1
  refine ⟨fun x => if x = k then A1 else if x = l.length then A2 else F x, fun x it hx => ?_, fun x z hx hz hxz i hi => ?_⟩
  · by_cases ek : x = k
    · subst ek
      rw [List.getElem?_append_left (by simpa using hkl), List.getElem?_set_self hkl] at hx
      cases hx
      simp only [if_true]
      exact ⟨q1, fun i hi => p2 i (q3 i hi)⟩
    · by_cases el : x = l.length
      · subst el
        rw [List.getElem?_append_right (by simp)] at hx
        simp at hx
        subst hx
        simp only [ek, if_true, if_false]
        exact ⟨q2, fun i hi => p2 i (q4 i hi)⟩
      · have hlt : x < l.length := by
          have := (List.getElem?_eq_some_iff.1 hx).1
          simp at this
          omega
        rw [List.getElem?_append_left (by simpa using hlt), List.getElem?_set_ne (fun e => ek e.symm)] at hx
        simp only [ek, el, if_false]
        exact h1 x it hx
  · simp only [List.length_append, List.length_set, List.length_singleton] at hx hz
    by_cases xk : x = k
    · by_cases zk : z = k
      · omega
      · by_cases zl : z = l.length
        · simp only [xk, zk, zl, if_true, if_false] at hi ⊢
          have : ¬ l.length = k := by omega
          simp only [this, if_false]
          exact q5 i hi
        · simp only [xk, zk, zl, if_true, if_false] at hi ⊢
          exact h2 k z hkl (by omega) (fun e => zk e.symm) i (q3 i hi)
    · by_cases xl : x = l.length
      · by_cases zk : z = k
        · simp only [xk, xl, zk, if_true, if_false] at hi ⊢
          have : ¬ l.length = k := by omega
          simp only [this, if_false] at hi
          exact fun hm => q5 i hm hi
        · have zl : ¬ z = l.length := by omega
          simp only [xk, xl, zk, zl, if_true, if_false] at hi ⊢
          have : ¬ l.length = k := by omega
          simp only [this, if_false] at hi
          exact h2 k z hkl (by omega) (fun e => zk e.symm) i (q4 i hi)
      · by_cases zk : z = k
        · simp only [xk, xl, zk, if_true, if_false] at hi ⊢
          exact fun hm => h2 x k (by omega) hkl xk i hi (q3 i hm)
        · by_cases zl : z = l.length
          · simp only [xk, xl, zk, zl, if_true, if_false] at hi ⊢
            have : ¬ l.length = k := by omega
            simp only [this, if_false]
            exact fun hm => h2 x k (by omega) hkl xk i hi (q4 i hm)
          · simp only [xk, xl, zk, zl, if_false] at hi ⊢
            exact h2 x z (by omega) (by omega) hxz i hi
theorem Sep.rowOut (h : Sep G B l) (hk : l[k]? = some (rowsC u eo ei C (X.map fr))) (d : β) (hi : inL X n) : Sep G B (l.set k (rowsX u eo ei C (X.map fr) n.toNat) ++ [flat (gat nilV C n) ei (fr (gat d X n))]) := by
  refine h.split hk fun A ⟨r, rA⟩ => ?_
  have hc := gat_get (d := nilV) (r.rd.inC hi)
  have hx : (X.map fr)[n.toNat]? = some (fr (gat d X n)) := by rw [List.getElem?_map, gat_get (d := d) hi]; rfl
  subst rA
  refine ⟨_, _, ⟨⟨r.out, r.len, fun k c xs _ => r.row k c xs, r.apart, r.inner⟩, rfl⟩, ⟨r.row _ _ _ hc hx, rfl⟩, fun i hi => ?_, fun i hi => ?_, fun i hi hm => ?_⟩
  · rcases List.mem_append.1 hi with hi | hi
    · exact List.mem_append_left _ hi
    · obtain ⟨c, hc, hi⟩ := List.mem_flatMap.1 hi
      obtain ⟨m, _, hc⟩ := mem_others.1 hc
      exact List.mem_append_right _ (List.mem_flatMap.2 ⟨c, List.mem_of_getElem? hc, hi⟩)
  · exact List.mem_append_right _ (List.mem_flatMap.2 ⟨_, List.mem_of_getElem? hc, hi⟩)
  · rw [mem_ids] at hm
    rcases List.mem_append.1 hi with hi | hi
    · exact r.inner _ (List.mem_of_getElem? hc) i hm (mem_ids.1 hi)
    · obtain ⟨c, hc', hi⟩ := List.mem_flatMap.1 hi
      obtain ⟨m, hmn, hc'⟩ := mem_others.1 hc'
      rcases Nat.lt_or_gt_of_ne hmn with hlt | hlt
      · exact r.apart m n.toNat c _ i hlt hc' hc (mem_ids.1 hi) hm
      · exact r.apart n.toNat m _ c i hlt hc hc' hm (mem_ids.1 hi)
theorem Sep.rowIn (h : Sep G B l) (hjk : j ≠ k) (hj : l[j]? = some (rowsX u eo ei C (X.map fr) n.toNat)) (hk : l[k]? = some (flat (gat nilV C n) ei (fr y))) (hi : inL X n) : Sep G B ((l.set j (rowsC u eo ei C ((lset X n y).map fr))).set k emp) := by
  have h1 := h.join hjk hj hk
  have jl := (List.getElem?_eq_some_iff.1 hj).1
  have kl := (List.getElem?_eq_some_iff.1 hk).1
  have hj' : ((l.set j (star (rowsX u eo ei C (X.map fr) n.toNat) (flat (gat nilV C n) ei (fr y)))).set k emp)[j]? = some (star (rowsX u eo ei C (X.map fr) n.toNat) (flat (gat nilV C n) ei (fr y))) := by
    rw [List.getElem?_set_ne (fun e => hjk e.symm), List.getElem?_set_self jl]
  have h2 := h1.turn (it' := rowsC u eo ei C ((lset X n y).map fr)) hj' fun A ⟨A1, A2, e1, ⟨r, rA⟩, ⟨b, bA⟩, d⟩ => by
    subst rA bA e1
    have hl := r.len
    have hc : C[n.toNat]? = some (gat nilV C n) := gat_get (by unfold inL at hi ⊢; simp at hl; omega)
    refine ⟨_, ⟨⟨r.out, by simpa [lset] using hl, fun m c xs hm hx => ?_, r.apart, r.inner⟩, rfl⟩, fun i hi => ?_⟩
    · by_cases e : m = n.toNat
      · subst e
        rw [hc] at hm
        cases hm
        have hlt : n.toNat < X.length := by unfold inL at hi; omega
        rw [lset, List.map_set, List.getElem?_set_self (by simpa using hlt)] at hx
        cases hx
        exact b
      · rw [lset, List.map_set, List.getElem?_set_ne (fun x => e x.symm)] at hx
        exact r.row m c xs e hm hx
    · rcases List.mem_append.1 hi with hi | hi
      · exact List.mem_append_left _ (List.mem_append_left _ hi)
      · obtain ⟨c, hcC, hi⟩ := List.mem_flatMap.1 hi
        obtain ⟨m, hm⟩ := List.getElem?_of_mem hcC
        by_cases e : m = n.toNat
        · subst e
          rw [hc] at hm
          cases hm
          exact List.mem_append_right _ hi
        · exact List.mem_append_left _ (List.mem_append_right _ (List.mem_flatMap.2 ⟨c, mem_others.2 ⟨m, e, hm⟩, hi⟩))
  have e : (((l.set j (star (rowsX u eo ei C (X.map fr) n.toNat) (flat (gat nilV C n) ei (fr y)))).set k emp).set j (rowsC u eo ei C ((lset X n y).map fr))) = (l.set j (rowsC u eo ei C ((lset X n y).map fr))).set k emp := by
    rw [List.set_comm _ _ (fun e => hjk e.symm), List.set_set]
  rwa [e] at h2
theorem Sep.rdX (h : Sep G B l) (hk : l[k]? = some (rowsX u eo ei C F m)) : Sl G u C ∧ C.length = F.length := by
  obtain ⟨A, ⟨h1, _⟩, _⟩ := h.get hk
  exact ⟨h1.out.sl, h1.len⟩
/-- A literal whose room is full: what is set behind it lies anew. -/
def full (v : Value) : Prop := ∃ a n, v = .slice a n n
theorem Sep.appendE {α : Type} {f : α → Value} {xs ys : List α} (h : Sep G B l) (hk : l[k]? = some (flat1 u e (xs.map f))) (hu : full u) (hN : Up B G.length) (he : elemT P t = some e) (he2 : elemT P t2 = some e) (hq : einfo P e = some q) (hq1 : q.size = 1) (hs : Sl G s (ys.map f)) (hb : xs.length + ys.length ≤ 4294967296) :
    ∃ v' G', aAppend P G t t2 u s = some (v', G') ∧ Sep G' B (l.set k (flat v' e ((lapp xs ys).map f))) ∧ Agree G.length G G' ∧ isTup v' = false ∧ v'.cells = #[v'] := by
  have hkl := (List.getElem?_eq_some_iff.1 hk).1
  obtain ⟨v', G', a, b, c, d, g⟩ := h.append1 hk hN he he2 hq hq1 hs hb
  refine ⟨v', G', a, b, ?_, d, g⟩
  have hd : srcD P t2 = true := by unfold srcD; rw [elemT_some he2]
  obtain ⟨i, off, gg, cc, o, h0, h1, h2, h3, h4, h5, h6, h7, h8⟩ := h.fresh hk
  obtain ⟨a', n', hfull⟩ := hu
  have hcc : cc = (xs.map f).length := by rw [hfull] at h1; injection h1 with a1 a2 a3; omega
  subst hcc
  have hal : alive G i gg = some o := by simp [alive, h2, h3]
  rw [h1] at a
  unfold aAppend at a
  simp only [he, hq, hq1, hd, if_true, hal] at a
  have hsrc : srcOf G 1 s = some (ys.map f, ys.length) := by
    rcases hs with ⟨rfl, hy⟩ | ⟨i2, off2, g2, c2, o2, rfl, k2, k3, k4, _⟩
    · have : ys = [] := by simpa using hy
      subst this
      rfl
    · simp only [srcOf, k2, Nat.mul_one]
      rw [if_pos k4, k3]
      simp
  simp only [hsrc] at a
  split at a
  · cases a
    exact Agree.refl _ _
  · split at a
    · cases a
      exact Agree.app _ _
    · cases a
theorem Sep.lit0E (h : Sep G B l) (hN : Up B G.length) (he : elemT P t = some e) (hq : einfo P e = some q) (hq1 : q.size = 1) :
    ∃ v G', aBuildSlice P G t 0 [] = some (v, G') ∧ Sep G' B (l ++ [flat1 v e []]) ∧ Agree G.length G G' ∧ full v :=
  ⟨_, _, aBuild_none he hq hq1, h.lit hN e [] 0, Agree.app _ _, _, _, rfl⟩
theorem Sep.lit1E (h : Sep G B l) (hN : Up B G.length) (he : elemT P t = some e) (hq : einfo P e = some q) (hq1 : q.size = 1) (x : Value) (hx : isTup x = false) (hc : x.cells = #[x]) :
    ∃ v G', aBuildSlice P G t 1 [(0, x)] = some (v, G') ∧ Sep G' B (l ++ [flat1 v e [x]]) ∧ Agree G.length G G' ∧ full v :=
  ⟨_, _, aBuild_one he hq hq1 hx hc, h.lit hN e [x] 1, Agree.app _ _, _, _, rfl⟩
theorem Sep.lit2E (h : Sep G B l) (hN : Up B G.length) (he : elemT P t = some e) (hq : einfo P e = some q) (hq1 : q.size = 1) (x y : Value) (hx : isTup x = false) (hc : x.cells = #[x]) (hy : isTup y = false) (hcy : y.cells = #[y]) :
    ∃ v G', aBuildSlice P G t 2 [(0, x), (1, y)] = some (v, G') ∧ Sep G' B (l ++ [flat1 v e [x, y]]) ∧ Agree G.length G G' ∧ full v :=
  ⟨_, _, aBuild_two he hq hq1 hx hc hy hcy, h.lit hN e [x, y] 2, Agree.app _ _, _, _, rfl⟩
end
theorem cells_int {k : IntKind} {n : Int} : (Value.int k n).cells = #[.int k n] := rfl
theorem cells_bool {b : Bool} : (Value.bool b).cells = #[.bool b] := rfl
theorem cells_str {s : ByteArray} : (Value.string s).cells = #[.string s] := rfl
theorem cells_agg {cs : Array Value} : (Value.agg cs).cells = cs := rfl
theorem cells_nil {n c : Nat} : (Value.slice none n c).cells = #[.slice none n c] := rfl
theorem n_fn {H : AH} {f : FuncId} {cs : Array Value} : aNil H (.func (.func f) #[] cs) = .val (.func (.func f) #[] cs) H := by simp [aNil]
/-- Two ways that meet. -/
theorem DWp.join {P : Program} {nt : Nat} {c : Code} {env : Env} {H : AH} {N : Env → AH → Prop} {Q : Exit → Env → AH → Prop} (J : Env → AH → Prop) (h : DWp P nt c (andThen J Q) env H) (hN : ∀ env H, J env H → N env H) : DWp P nt c (andThen N Q) env H :=
  h.mono fun x e G q => by
    cases x with
    | normal => exact hN _ _ q
    | _ => exact q
theorem build0 {P : Program} {t : TypeId} {z : Value} {pl : Nat → Option (Nat × Nat)} {cs : List Value} (hp : placeT P t = some (z, pl)) (hz : constV z = true) (hl : z.cells.toList = cs) : aBuild P t [] = some (.agg cs.toArray) := by
  subst hl
  unfold aBuild
  simp only [hp]
  rw [if_pos ⟨hz, rfl⟩]
  rfl
end Go.Proofs.Ytbckijeffiofdaa.AL
