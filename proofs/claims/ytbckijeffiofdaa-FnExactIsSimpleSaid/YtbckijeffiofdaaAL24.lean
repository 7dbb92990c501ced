/- AL, part 24: lists of lists that are owned. No condition. -/
import Derived.Test.YtbckijeffiofdaaAL23
namespace Go.Proofs.Ytbckijeffiofdaa.AL
open Go Go.RowKit
set_option linter.unusedVariables false
set_option linter.unusedSimpArgs false

def nilV : Value := .slice none 0 0
/-- A list of lists: the cells of the outer one are C, what the rows hold is F; all apart. -/
structure RowsF (G : AH) (eo ei : TypeId) (u : Value) (C : List Value) (F : List (List Value)) : Prop where
  out : Own G 0 eo u C
  len : C.length = F.length
  row : ∀ (k : Nat) (c : Value) (xs : List Value), C[k]? = some c → F[k]? = some xs → Own G 0 ei c xs
  apart : ∀ (j k : Nat) (c d : Value) (i : Nat), j < k → C[j]? = some c → C[k]? = some d → idOf c = some i → idOf d ≠ some i
  inner : ∀ c ∈ C, ∀ i, idOf c = some i → idOf u ≠ some i
theorem RowsF.at {G G' : AH} {eo ei : TypeId} {u : Value} {C : List Value} {F : List (List Value)} (h : RowsF G eo ei u C F) (a : ∀ i, i ∈ ids u ++ C.flatMap ids → G'[i]? = G[i]?) : RowsF G' eo ei u C F where
  out := h.out.at fun i hi => a i (List.mem_append_left _ (mem_ids.2 hi))
  len := h.len
  row := fun k c xs hc hx => (h.row k c xs hc hx).at fun i hi => a i (List.mem_append_right _ (List.mem_flatMap.2 ⟨c, List.mem_of_getElem? hc, mem_ids.2 hi⟩))
  apart := h.apart
  inner := h.inner
def rowsC (u : Value) (eo ei : TypeId) (C : List Value) (F : List (List Value)) : Item := ⟨fun G A => RowsF G eo ei u C F ∧ A = ids u ++ C.flatMap ids, fun G G' A h ⟨a, b⟩ => by
  subst b
  exact ⟨a.at h, rfl⟩⟩
section
variable {β : Type} {fr : β → List Value} {X : List β} {y : β} {P : Program} {G G1 H : AH} {B : Nat → Prop} {l : List Item} {u v c s : Value} {C cells new : List Value} {F : List (List Value)} {t t2 e eo ei : TypeId} {j k i : Nat} {q : EInfo} {n : Int} {kk : IntKind}
theorem Sep.rowsNil (h : Sep G B l) (hN : Up B G.length) (eo ei : TypeId) : Sep G B (l ++ [rowsC nilV eo ei [] []]) :=
  h.app (B' := Fr G) (Agree.refl _ _) ⟨fun _ => [], fun k jt hk => by
    cases k with
    | zero =>
      simp at hk
      subst hk
      exact ⟨⟨⟨.nil, rfl, fun k c xs hc => by simp at hc, fun j k c d i _ hc => by simp at hc, fun c hc => by simp at hc⟩, rfl⟩, fun i hi => by simp at hi⟩
    | succ k => simp at hk, fun j k hj hk hjk i hi => by simp at hi⟩ (fun _ h => h) hN
theorem Sep.rowsOf0 (h : Sep G B l) (hk : l[k]? = some (flat1 u eo [])) (ei : TypeId) : Sep G B (l.set k (rowsC u eo ei [] [])) := h.turn hk fun A ⟨a, b⟩ =>
  ⟨A, ⟨⟨.inr a, rfl, fun k c xs hc => by simp at hc, fun j k c d i _ hc => by simp at hc, fun c hc => by simp at hc⟩, by simp [b]⟩, fun _ h => h⟩
/-- A literal of one row, and the row. -/
theorem Sep.rowsOf1 (h : Sep G B l) (hjk : j ≠ k) (hj : l[j]? = some (flat1 u eo [c])) (hk : l[k]? = some (flat c ei cells)) : Sep G B ((l.set j (rowsC u eo ei [c] [cells])).set k emp) := by
  have h1 := h.join hjk hj hk
  have jl := (List.getElem?_eq_some_iff.1 hj).1
  have kl := (List.getElem?_eq_some_iff.1 hk).1
  have hj' : ((l.set j (star (flat1 u eo [c]) (flat c ei cells))).set k emp)[j]? = some (star (flat1 u eo [c]) (flat c ei cells)) := by
    rw [List.getElem?_set_ne (fun e => hjk e.symm), List.getElem?_set_self jl]
  have h2 := h1.turn (it' := rowsC u eo ei [c] [cells]) hj' fun A ⟨A1, A2, e1, ⟨a, a'⟩, ⟨b, b'⟩, d⟩ => by
    subst a' b' e1
    refine ⟨ids u ++ ids c, ⟨⟨.inr a, rfl, fun m x xs hx hy => ?_, fun p m x d' i hpm hx hd' => ?_, fun x hx i hi hu => ?_⟩, by simp⟩, fun _ h => h⟩
    · cases m with
      | zero => simp at hx hy; subst hx hy; exact b
      | succ m => simp at hx
    · have := (List.getElem?_eq_some_iff.1 hd').1
      simp at this
      omega
    · simp at hx
      subst hx
      exact d i (mem_ids.2 hu) (mem_ids.2 hi)
  have e : (((l.set j (star (flat1 u eo [c]) (flat c ei cells))).set k emp).set j (rowsC u eo ei [c] [cells])) = (l.set j (rowsC u eo ei [c] [cells])).set k emp := by
    rw [List.set_comm _ _ (fun e => hjk e.symm), List.set_set]
  rwa [e] at h2
theorem Sep.rowsF (h : Sep G B l) (hk : l[k]? = some (rowsC u eo ei C F)) : RowsF G eo ei u C F := by
  obtain ⟨A, h1, _⟩ := h.get hk
  exact h1.1
theorem Sep.rowsSl (h : Sep G B l) (hk : l[k]? = some (rowsC u eo ei C F)) : Sl G u C := (h.rowsF hk).out.sl
theorem RowsF.slsl (h : RowsF G eo ei u C F) : SlSl G u F := ⟨C, h.out.sl, h.len, fun k c xs hc hx => (h.row k c xs hc hx).sl⟩
theorem gat_get {α : Type} {d : α} {xs : List α} {n : Int} (h : inL xs n) : xs[n.toNat]? = some (gat d xs n) := by
  unfold inL at h
  have : n.toNat < xs.length := by omega
  simp [gat_eq, List.getD_eq_getElem?_getD, this]
theorem gat_map {α γ : Type} {f : α → γ} {d : α} {d' : γ} {xs : List α} {n : Int} (h : inL xs n) : gat d' (xs.map f) n = f (gat d xs n) := by
  have h1 := gat_get (d := d) h
  have h2 : inL (xs.map f) n := by simpa [inL] using h
  have h3 := gat_get (d := d') h2
  rw [List.getElem?_map, h1] at h3
  simpa using h3.symm
/-- What reads as a list of lists, its cells told. -/
structure RdC (G : AH) (v : Value) (C : List Value) (F : List (List Value)) : Prop where
  out : Sl G v C
  len : C.length = F.length
  row : ∀ (k : Nat) (c : Value) (xs : List Value), C[k]? = some c → F[k]? = some xs → Sl G c xs
theorem RdC.agree (h : RdC G v C F) (a : Agree G.length G G1) : RdC G1 v C F := ⟨h.out.agree a, h.len, fun k c xs hc hx => (h.row k c xs hc hx).agree a⟩
theorem SlSl.rd (h : SlSl G v F) : ∃ C, RdC G v C F := by
  obtain ⟨C, a, b, c⟩ := h
  exact ⟨C, a, b, c⟩
theorem RdC.slsl (h : RdC G v C F) : SlSl G v F := ⟨C, h.out, h.len, h.row⟩
theorem RowsF.rd (h : RowsF G eo ei u C F) : RdC G u C F := ⟨h.out.sl, h.len, fun k c xs hc hx => (h.row k c xs hc hx).sl⟩
theorem Sep.rd (h : Sep G B l) (hk : l[k]? = some (rowsC u eo ei C F)) : RdC G u C F := (h.rowsF hk).rd
theorem RdC.lenG (h : RdC G v C (X.map fr)) (he : elemT P t = some e) : aLen P G t v = some (.int .i64 (llen X)) := by
  have := h.out.len (P := P) he
  rw [h.len] at this
  simpa [llen] using this
theorem RdC.inC (h : RdC G v C (X.map fr)) (hi : inL X n) : inL C n := by
  have := h.len
  unfold inL at hi ⊢
  simp at this
  omega
theorem RdC.idxG (h : RdC G v C (X.map fr)) (he : elemT P t = some e) (hs : sizeT P e = some 1) (hi : inL X n) : aIndexAddr P G t v (.int kk n) = some (elP v n.toNat) := by
  have h2 := h.inC hi
  unfold inL at h2
  have := h.out.idx (P := P) he hs (k := n.toNat) (by omega) (kk := kk)
  rwa [Int.toNat_of_nonneg h2.1] at this
theorem RdC.loadG (h : RdC G v C (X.map fr)) (hs : sizeT P e = some 1) (hb : aggT P e = some false) (hi : inL X n) : aLoad P G e (elP v n.toNat) = some (gat nilV C n) :=
  h.out.load hs hb (gat_get (h.inC hi))
theorem RdC.rowAt (h : RdC G v C (X.map fr)) (d : β) (hi : inL X n) : Sl G (gat nilV C n) (fr (gat d X n)) := by
  refine h.row n.toNat _ _ (gat_get (h.inC hi)) ?_
  rw [List.getElem?_map, gat_get (d := d) hi]
  rfl
theorem RdC.tup (h : RdC G v C F) : isTup v = false := h.out.tup
theorem RdC.one (h : RdC G v C F) : v.cells = #[v] := h.out.one
/-- A row behind the others: it is told within a literal. -/
theorem Sep.pushRow (h : Sep G B l) (hjk : j ≠ k) (hj : l[j]? = some (rowsC u eo ei C (X.map fr))) (hk : l[k]? = some (flat c ei (fr y))) (hN : Up B G.length) (he : elemT P t = some eo) (he2 : elemT P t2 = some eo) (hq : einfo P eo = some q) (hq1 : q.size = 1) (hs : Sl G s [c]) (hb : X.length + 1 ≤ 4294967296) :
    ∃ v' G', aAppend P G t t2 u s = some (v', G') ∧ Sep G' B ((l.set j (rowsC v' eo ei (C ++ [c]) ((lapp X [y]).map fr))).set k emp) ∧ AgB B G G' ∧ isTup v' = false ∧ v'.cells = #[v'] := by
  have hd : srcD P t2 = true := by unfold srcD; rw [elemT_some he2]
  have jl := (List.getElem?_eq_some_iff.1 hj).1
  have kl := (List.getElem?_eq_some_iff.1 hk).1
  have hr := h.rowsF hj
  have hlen := hr.len
  simp at hlen
  obtain ⟨v', G1, a1, b1, c1, d1, e1⟩ := hr.out.apx (Nat.zero_le _) he hq hq1 hd hs (by simp; omega)
  have h1 := h.join hjk hj hk
  have hj' : ((l.set j (star (rowsC u eo ei C (X.map fr)) (flat c ei (fr y)))).set k emp)[j]? = some (star (rowsC u eo ei C (X.map fr)) (flat c ei (fr y))) := by
    rw [List.getElem?_set_ne (fun e => hjk e.symm), List.getElem?_set_self jl]
  obtain ⟨G', r, s1, s2, s3⟩ := h1.step (it' := rowsC v' eo ei (C ++ [c]) ((lapp X [y]).map fr)) hj' hN (fun G' => G' = G1) fun A ⟨A1, A2, eA, ⟨ra, ra'⟩, ⟨b, b'⟩, d⟩ hA => by
    subst ra' b' eA
    have old : ∀ x ∈ C, ∀ i, idOf x = some i → i < G.length ∧ idOf u ≠ some i := fun x hx i hi => by
      refine ⟨(hA i ?_).2, ra.inner x hx i hi⟩
      exact List.mem_append_left _ (List.mem_append_right _ (List.mem_flatMap.2 ⟨x, hx, mem_ids.2 hi⟩))
    have oldc : ∀ i, idOf c = some i → i < G.length ∧ idOf u ≠ some i := fun i hi => by
      refine ⟨(hA i (List.mem_append_right _ (mem_ids.2 hi))).2, fun hu => ?_⟩
      exact d i (List.mem_append_left _ (mem_ids.2 hu)) (mem_ids.2 hi)
    have hu' : ∀ i, idOf v' = some i → idOf u = some i ∨ (G.length ≤ i ∧ i < G1.length) := fun i hi => by
      rcases e1 with e1 | ⟨e1, e2⟩
      · exact .inl (e1 ▸ hi)
      · rw [e1] at hi
        simp at hi
        exact .inr (by omega)
    refine ⟨G1, ids v' ++ (C ++ [c]).flatMap ids, rfl, ⟨⟨b1, by simp [hlen, lapp], fun m x xs hx hy => ?_, fun p m x z i hpm hx hz hi hz' => ?_, fun x hx i hi hv => ?_⟩, rfl⟩, fun i hi => ?_, c1, fun i hi hm => d1 i hi fun hu => hm (List.mem_append_left _ (List.mem_append_left _ (mem_ids.2 hu)))⟩
    · have hlm : m < C.length + 1 := by have := (List.getElem?_eq_some_iff.1 hx).1; simpa using this
      by_cases hm : m < C.length
      · rw [List.getElem?_append_left hm] at hx
        rw [lapp, List.map_append, List.getElem?_append_left (by simp; omega)] at hy
        exact (ra.row m x xs hx hy).at fun i hi => d1 i (old x (List.mem_of_getElem? hx) i hi).1 (old x (List.mem_of_getElem? hx) i hi).2
      · have : m = C.length := by omega
        subst this
        rw [List.getElem?_append_right (Nat.le_refl _), Nat.sub_self] at hx
        rw [lapp, List.map_append, List.getElem?_append_right (by simp; omega)] at hy
        simp [hlen] at hx hy
        subst hx hy
        exact b.at fun i hi => d1 i (oldc i hi).1 (oldc i hi).2
    · have hlm : m < C.length + 1 := by have := (List.getElem?_eq_some_iff.1 hz).1; simpa using this
      rw [List.getElem?_append_left (by omega)] at hx
      by_cases hm : m < C.length
      · rw [List.getElem?_append_left hm] at hz
        exact ra.apart p m x z i hpm hx hz hi hz'
      · have : m = C.length := by omega
        subst this
        rw [List.getElem?_append_right (Nat.le_refl _), Nat.sub_self] at hz
        simp at hz
        subst hz
        exact d i (List.mem_append_right _ (List.mem_flatMap.2 ⟨x, List.mem_of_getElem? hx, mem_ids.2 hi⟩)) (mem_ids.2 hz')
    · have key : i < G.length ∧ idOf u ≠ some i := by
        rcases List.mem_append.1 hx with hx | hx
        · exact old x hx i hi
        · simp at hx
          subst hx
          exact oldc i hi
      rcases hu' i hv with h' | h'
      · exact key.2 h'
      · omega
    · rcases List.mem_append.1 hi with hi | hi
      · rcases hu' i (mem_ids.1 hi) with h' | h'
        · exact .inl (List.mem_append_left _ (List.mem_append_left _ (mem_ids.2 h')))
        · exact .inr h'
      · rw [List.flatMap_append] at hi
        rcases List.mem_append.1 hi with hi | hi
        · exact .inl (List.mem_append_left _ (List.mem_append_right _ hi))
        · simp at hi
          exact .inl (List.mem_append_right _ hi)
  subst r
  have e : (((l.set j (star (rowsC u eo ei C (X.map fr)) (flat c ei (fr y)))).set k emp).set j (rowsC v' eo ei (C ++ [c]) ((lapp X [y]).map fr))) = (l.set j (rowsC v' eo ei (C ++ [c]) ((lapp X [y]).map fr))).set k emp := by
    rw [List.set_comm _ _ (fun e => hjk e.symm), List.set_set]
  rw [e] at s1
  exact ⟨v', G', a1, s1, s2, b1.sl.tup, b1.sl.one⟩
end
/-! ### Boxes that are only read -/
def Bx (G : AH) (p : Value) (cells : List Value) : Prop := ∃ i, BoxAt G p cells i
section
variable {P : Program} {G G1 : AH} {B : Nat → Prop} {l : List Item} {p v : Value} {cells : List Value} {e : TypeId} {k : Nat}
theorem Bx.agree (h : Bx G p cells) (a : Agree G.length G G1) : Bx G1 p cells := by
  obtain ⟨i, h⟩ := h
  have hi : i < G.length := by
    obtain ⟨_, o, h1, _⟩ := h
    exact (List.getElem?_eq_some_iff.1 h1).1
  exact ⟨i, h.at (a i hi)⟩
theorem Bx.load0 (h : Bx G p [v]) (hs : sizeT P e = some 1) (hb : aggT P e = some false) : aLoad P G e p = some v := by
  obtain ⟨i, h⟩ := h
  exact h.load0 hs hb
theorem Bx.nilT (h : Bx G p cells) : aNil G p = .val p G := by
  obtain ⟨i, rfl, o, h1, h2, _⟩ := h
  have ha : alive G i 0 = some o := by simp [alive, h1, h2]
  simp [ptrAt, aNil, ha]
theorem Bx.flatT (h : Bx G p cells) : flatV p = true := by
  obtain ⟨i, rfl, _⟩ := h
  rfl
theorem Bx.ptup (h : Bx G p cells) : isTup p = false := by
  obtain ⟨i, rfl, _⟩ := h
  rfl
theorem Sep.bxT (h : Sep G B l) (hk : l[k]? = some (AL.box p cells)) : Bx G p cells := by
  obtain ⟨i, h, _⟩ := h.boxAt hk
  exact ⟨i, h⟩
theorem Sep.flatT (h : Sep G B l) (hk : l[k]? = some (AL.box p cells)) : flatV p = true := (h.bxT hk).flatT
theorem Sep.ptup (h : Sep G B l) (hk : l[k]? = some (AL.box p cells)) : isTup p = false := (h.bxT hk).ptup
end
end Go.Proofs.Ytbckijeffiofdaa.AL
