/- AL, the parts 37, 38, 39, 40, 41, 42, 43, 44: code told on an abstract heap. No condition. -/
import Derived.Test.YtbckijeffiofdaaALC
namespace Go.Proofs.Ytbckijeffiofdaa.AL
open Go Go.RowKit
attribute [local simp] aBin' aBin aBinI aUn aNil flatV
set_option linter.unusedVariables false
set_option linter.unusedSimpArgs false
structure RowsAB (k : Nat) (G : AH) (eo ei : TypeId) (u : Value) (n : Nat) (C : List Value) (F : List (List Value)) (a b : Nat) : Prop where
  out : OwnK k G eo u n C
  len : C.length = F.length
  row : ∀ (m : Nat) (c : Value) (xs : List Value), (m < a ∨ b ≤ m) → C[m]? = some c → F[m]? = some xs → Own G 0 ei c xs
  apart : ∀ (j m : Nat) (c d : Value) (i : Nat), (j < a ∨ b ≤ j) → (m < a ∨ b ≤ m) → j < m → C[j]? = some c → C[m]? = some d → idOf c = some i → idOf d ≠ some i
  inner : ∀ (m : Nat) (c : Value), (m < a ∨ b ≤ m) → C[m]? = some c → ∀ i, idOf c = some i → idOf u ≠ some i
def those (C : List Value) (a b : Nat) : List Value := C.take a ++ C.drop b
theorem mem_those {C : List Value} {a b : Nat} {c : Value} : c ∈ those C a b ↔ ∃ m, (m < a ∨ b ≤ m) ∧ C[m]? = some c := by
  unfold those
  rw [List.mem_append]
  constructor
  · rintro (h | h)
    · obtain ⟨m, hm⟩ := List.getElem?_of_mem h
      have hlt := (List.getElem?_eq_some_iff.1 hm).1
      simp at hlt
      rw [List.getElem?_take_of_lt (by omega)] at hm
      exact ⟨m, .inl (by omega), hm⟩
    · obtain ⟨m, hm⟩ := List.getElem?_of_mem h
      rw [List.getElem?_drop] at hm
      exact ⟨b + m, .inr (by omega), hm⟩
  · rintro ⟨m, hm | hm, hc⟩
    · exact .inl (List.mem_of_getElem? (i := m) (by rw [List.getElem?_take_of_lt hm, hc]))
    · exact .inr (List.mem_of_getElem? (i := m - b) (by rw [List.getElem?_drop, show b + (m - b) = m by omega, hc]))
theorem mem_ab {C : List Value} {a b i : Nat} {u : Value} : i ∈ ids u ++ (those C a b).flatMap ids ↔ idOf u = some i ∨ ∃ m c, (m < a ∨ b ≤ m) ∧ C[m]? = some c ∧ idOf c = some i := by
  rw [List.mem_append, mem_ids, List.mem_flatMap]
  constructor
  · rintro (h | ⟨c, hc, hi⟩)
    · exact .inl h
    · obtain ⟨m, hm, e⟩ := mem_those.1 hc
      exact .inr ⟨m, c, hm, e, mem_ids.1 hi⟩
  · rintro (h | ⟨m, c, hm, e, hi⟩)
    · exact .inl h
    · exact .inr ⟨c, mem_those.2 ⟨m, hm, e⟩, mem_ids.2 hi⟩
theorem RowsAB.at {k : Nat} {G G' : AH} {eo ei : TypeId} {u : Value} {n : Nat} {C : List Value} {F : List (List Value)} {a b : Nat} (h : RowsAB k G eo ei u n C F a b) (ha : ∀ i, i ∈ ids u ++ (those C a b).flatMap ids → G'[i]? = G[i]?) : RowsAB k G' eo ei u n C F a b where
  out := h.out.at fun i hi => ha i (mem_ab.2 (.inl hi))
  len := h.len
  row := fun m c xs hm hc hx => (h.row m c xs hm hc hx).at fun i hi => ha i (mem_ab.2 (.inr ⟨m, c, hm, hc, hi⟩))
  apart := h.apart
  inner := h.inner
def rowsAB (k : Nat) (u : Value) (eo ei : TypeId) (n : Nat) (C : List Value) (F : List (List Value)) (a b : Nat) : Item := ⟨fun G A => RowsAB k G eo ei u n C F a b ∧ A = ids u ++ (those C a b).flatMap ids, fun G G' A h ⟨x, y⟩ => by
  subst y
  exact ⟨x.at h, rfl⟩⟩
def rowsPD (u : Value) (eo ei : TypeId) (C : List Value) (X : List PL) (i j : Int) : Item := rowsAB 2 u eo ei X.length C (X.flatMap pr2) (i.toNat * 2) (j.toNat * 2)
section
variable {Y : List PL} {P : Program} {G G1 H : AH} {B : Nat → Prop} {l : List Item} {u v c c1 c2 : Value} {C : List Value} {F : List (List Value)} {xs ys : List Int} {t e eo ei : TypeId} {k kk k1 k2 a b n : Nat} {y z i j : Int} {ki : IntKind} {q : EInfo}
theorem Sep.abF (h : Sep G B l) (hk : l[kk]? = some (rowsAB k u eo ei n C F a b)) : RowsAB k G eo ei u n C F a b := by
  obtain ⟨A, h1, _⟩ := h.get hk
  exact h1.1
theorem Sep.abLess (h : Sep G B l) (hk : l[kk]? = some (rowsAB k u eo ei n C F a b)) {a' b' : Nat} (hl : ∀ m, (m < a' ∨ b' ≤ m) → (m < a ∨ b ≤ m)) : Sep G B (l.set kk (rowsAB k u eo ei n C F a' b')) := h.turn hk fun A ⟨r, rA⟩ => by
  refine ⟨_, ⟨⟨r.out, r.len, fun m c xs hm => r.row m c xs (hl m hm), fun j m c d i hj hm => r.apart j m c d i (hl j hj) (hl m hm), fun m c hm => r.inner m c (hl m hm)⟩, rfl⟩, fun i hi => ?_⟩
  rw [rA]
  rcases mem_ab.1 hi with hi | ⟨m, c, hm, hc, hi⟩
  · exact mem_ab.2 (.inl hi)
  · exact mem_ab.2 (.inr ⟨m, c, hl m hm, hc, hi⟩)
theorem Sep.toPD (h : Sep G B l) (hk : l[kk]? = some (rowsP u eo ei C Y)) (i j : Int) : Sep G B (l.set kk (rowsPD u eo ei C Y i j)) := by
  have h1 : Sep G B (l.set kk (rowsAB 2 u eo ei Y.length C (Y.flatMap pr2) 0 0)) := h.turn hk fun A ⟨r, rA⟩ =>
    ⟨A, ⟨⟨r.out, r.len, fun m c xs _ => r.row m c xs, fun j m c d i _ _ => r.apart j m c d i, fun m c _ hc => r.inner c (List.mem_of_getElem? hc)⟩, by simpa [those] using rA⟩, fun _ h => h⟩
  have h2 := h1.abLess (kk := kk) (a' := i.toNat * 2) (b' := j.toNat * 2) (List.getElem?_set_self (List.getElem?_eq_some_iff.1 hk).1) (fun m _ => .inr (by omega))
  rwa [List.set_set] at h2
theorem Sep.abTake (h : Sep G B l) (hk : l[kk]? = some (rowsAB k u eo ei n C F a b)) (hc : C[b]? = some c) {zs : List Value} (hx : F[b]? = some zs) (hab : a ≤ b) : Sep G B (l.set kk (rowsAB k u eo ei n C F a (b + 1)) ++ [flat c ei zs]) := by
  refine h.split hk fun A ⟨r, rA⟩ => ?_
  subst rA
  refine ⟨_, _, ⟨⟨r.out, r.len, fun m c xs hm => r.row m c xs (by omega), fun j m c d i hj hm => r.apart j m c d i (by omega) (by omega), fun m c hm => r.inner m c (by omega)⟩, rfl⟩, ⟨r.row b c zs (.inr (Nat.le_refl _)) hc hx, rfl⟩, fun i hi => ?_, fun i hi => ?_, fun i hi hm => ?_⟩
  · rcases mem_ab.1 hi with hi | ⟨m, d, hm, hd, hi⟩
    · exact mem_ab.2 (.inl hi)
    · exact mem_ab.2 (.inr ⟨m, d, by omega, hd, hi⟩)
  · exact mem_ab.2 (.inr ⟨b, c, .inr (Nat.le_refl _), hc, mem_ids.1 hi⟩)
  · rw [mem_ids] at hm
    rcases mem_ab.1 hi with hi | ⟨m, d, hm', hd, hi⟩
    · exact r.inner b c (.inr (Nat.le_refl _)) hc i hm hi
    · rcases Nat.lt_or_ge m b with hlt | hge
      · exact r.apart m b d c i (by omega) (.inr (Nat.le_refl _)) hlt hd hc hi hm
      · exact r.apart b m c d i (.inr (Nat.le_refl _)) (by omega) (by omega) hc hd hm hi
theorem Sep.takePD (h : Sep G B l) (hk : l[kk]? = some (rowsPD u eo ei C Y i j)) (hi : inL Y j) (hl : Y.length ≤ 4294967296) (hij : i.toNat ≤ j.toNat) : Sep G B (l.set kk (rowsPD u eo ei C Y i (iadd .i64 j 1)) ++ [flat (pc C j 0) ei (ints (gat pnil Y j).1), flat (pc C j 1) ei (ints (gat pnil Y j).2)]) := by
  have r := h.abF hk
  have hkl := (List.getElem?_eq_some_iff.1 hk).1
  have hCl := r.out.1
  have g : ∀ f, f < 2 → C[j.toNat * 2 + f]? = some (pc C j f) := fun f hf => by
    have : j.toNat * 2 + f < C.length := by unfold inL at hi; omega
    simp [pc, List.getD_eq_getElem?_getD, this]
  have h1 := h.abTake hk (g 0 (by omega)) (zs := ints (gat pnil Y j).1) (by rw [show j.toNat * 2 = j.toNat * 2 + 0 from rfl, getX hi (by omega)]; rfl) (by omega)
  have h2 := h1.abTake (kk := kk) (k := 2) (u := u) (eo := eo) (ei := ei) (n := Y.length) (C := C) (F := Y.flatMap pr2) (a := i.toNat * 2) (b := j.toNat * 2 + 1) (by rw [List.getElem?_append_left (by simpa using hkl), List.getElem?_set_self hkl]) (g 1 (by omega)) (zs := ints (gat pnil Y j).2) (by rw [getX hi (by omega)]; rfl) (by omega)
  have e : (l.set kk (rowsAB 2 u eo ei Y.length C (Y.flatMap pr2) (i.toNat * 2) (j.toNat * 2 + 1)) ++ [flat (pc C j 0) ei (ints (gat pnil Y j).1)]).set kk (rowsAB 2 u eo ei Y.length C (Y.flatMap pr2) (i.toNat * 2) (j.toNat * 2 + 1 + 1)) ++ [flat (pc C j 1) ei (ints (gat pnil Y j).2)] =
      l.set kk (rowsPD u eo ei C Y i (iadd .i64 j 1)) ++ [flat (pc C j 0) ei (ints (gat pnil Y j).1), flat (pc C j 1) ei (ints (gat pnil Y j).2)] := by
    rw [List.set_append_left _ _ (by simpa using hkl), List.set_set, List.append_assoc]
    unfold rowsPD
    rw [step_nat hi hl, show (j.toNat + 1) * 2 = j.toNat * 2 + 1 + 1 by omega]
    rfl
  rw [← e]
  exact h2
theorem Sep.outPD (h : Sep G B l) (hk : l[kk]? = some (rowsPD u eo ei C Y i j)) : SlK 2 G u Y.length C := (h.abF hk).out.sl
theorem Sep.lenPD (h : Sep G B l) (hk : l[kk]? = some (rowsPD u eo ei C Y i j)) (he : elemT P t = some e) : aLen P G t u = some (.int .i64 (llen Y)) := (h.outPD hk).len he
theorem Sep.idxPD (h : Sep G B l) (hk : l[kk]? = some (rowsPD u eo ei C Y i j)) (he : elemT P t = some e) (hs : sizeT P e = some 2) (hi : inL Y z) : aIndexAddr P G t u (.int ki z) = some (elP u (z.toNat * 2)) := by
  have := (h.outPD hk).idx (kk := ki) he hs (j := z.toNat) (by unfold inL at hi; omega)
  rwa [Int.toNat_of_nonneg hi.1] at this
theorem Sep.loadPD (h : Sep G B l) (hk : l[kk]? = some (rowsPD u eo ei C Y i j)) (hs : sizeT P e = some 2) (hb : aggT P e = some true) (hi : inL Y z) : aLoad P G e (elP u (z.toNat * 2)) = some (.agg #[pc C z 0, pc C z 1]) :=
  agg_pc (h.outPD hk) hs hb hi.1 hi.2
theorem putL {α : Type} {L new : List α} {off a len : Nat} (h : off + len ≤ L.length) (ha : a + new.length ≤ len) : ((L.take (off + a) ++ new ++ L.drop (off + a + new.length)).drop off).take len = ((L.drop off).take len).take a ++ new ++ ((L.drop off).take len).drop (a + new.length) := by
  apply List.ext_getElem?
  intro x
  simp only [List.getElem?_take, List.getElem?_drop, List.getElem?_append, List.length_append, List.length_take, List.length_drop]
  grind
theorem OwnK.put {new : List Value} {v' : Value} {m : Nat} (h : OwnK k G e u n C) (hs : sizeT P e = some k) (hm : m < n) (hv : isTup v' = false) (hc : v'.cells.toList = new) (hn : new.length = k) :
    ∃ G', aStore P G e (elP u (m * k)) v' = some G' ∧ OwnK k G' e u n (C.take (m * k) ++ new ++ C.drop (m * k + k)) ∧ G'.length = G.length ∧ ∀ i, idOf u ≠ some i → G'[i]? = G[i]? := by
  obtain ⟨h0, h⟩ := h
  have hmk : m * k + k ≤ n * k := by
    have : (m + 1) * k ≤ n * k := Nat.mul_le_mul_right k (by omega)
    rw [Nat.add_mul, Nat.one_mul] at this
    exact this
  rcases h with ⟨rfl, rfl⟩ | ⟨i, off, g, c, o, rfl, h1, h2, h3, h4, h5, h6, h7⟩
  · omega
  · have hal : alive G i g = some o := by simp [alive, h1, h2]
    have hlt := (List.getElem?_eq_some_iff.1 h1).1
    have hcs : v'.cells.size = k := by rw [← Array.length_toList, hc, hn]
    simp only [elP, aStore, hal, hs]
    rw [if_pos ⟨h5, hv, hcs, by omega⟩]
    refine ⟨_, rfl, ⟨by simp [hn]; omega, .inr ⟨i, off, g, c, _, rfl, List.getElem?_set_self hlt, h2, h3, h4, h5, by simp [hn, hc]; omega, ?_⟩⟩, by simp, fun j hne => ?_⟩
    · have hl1 : (C.take (m * k) ++ new ++ C.drop (m * k + k)).length = C.length := by simp [hn]; omega
      rw [hl1, hc]
      have := putL (L := o.cells) (new := new) (off := off) (a := m * k) (len := C.length) (by omega) (by rw [hn]; omega)
      rw [hn, h7] at this
      simpa [Nat.add_assoc, hn] using this
    · rw [List.getElem?_set_ne]
      rintro rfl
      exact hne rfl
end
end Go.Proofs.Ytbckijeffiofdaa.AL
namespace Go.Proofs.Ytbckijeffiofdaa.AL
open Go Go.RowKit
attribute [local simp] aBin' aBin aBinI aUn aNil flatV
set_option linter.unusedVariables false
set_option linter.unusedSimpArgs false
def putP (C : List Value) (i : Int) (c1 c2 : Value) : List Value := C.take (i.toNat * 2) ++ [c1, c2] ++ C.drop (i.toNat * 2 + 2)
def subP (u : Value) (a b : Nat) : Value := match u with
  | .slice (some ⟨i, off, some g⟩) n c => .slice (some ⟨i, off + a * 2, some g⟩) (b - a) (if c = n ∧ b = n then b - a else b - a + 1)
  | v => v
section
variable {Y : List PL} {P : Program} {G G1 H : AH} {B : Nat → Prop} {l : List Item} {u v c c1 c2 : Value} {C zs : List Value} {F F' : List (List Value)} {xs ys : List Int} {t e eo ei : TypeId} {k kk k1 k2 a b n m : Nat} {y z i j : Int} {ki : IntKind} {q : EInfo}
theorem putP_get {x : Nat} (h : i.toNat * 2 + 2 ≤ C.length) : (putP C i c1 c2)[x]? = if x = i.toNat * 2 then some c1 else if x = i.toNat * 2 + 1 then some c2 else C[x]? := by
  unfold putP
  have hl : (C.take (i.toNat * 2)).length = i.toNat * 2 := by simp; omega
  rw [List.append_assoc, List.getElem?_append, hl]
  by_cases h1 : x < i.toNat * 2
  · rw [if_pos h1, if_neg (by omega), if_neg (by omega), List.getElem?_take_of_lt h1]
  · rw [if_neg h1]
    by_cases h2 : x = i.toNat * 2
    · subst h2
      simp
    · by_cases h3 : x = i.toNat * 2 + 1
      · subst h3
        simp
      · rw [if_neg h2, if_neg h3, List.getElem?_append_right (by simp; omega), List.getElem?_drop]
        congr 1
        simp
        omega
theorem putP_len (h : i.toNat * 2 + 2 ≤ C.length) : (putP C i c1 c2).length = C.length := by
  unfold putP
  simp
  omega
theorem Sep.abPut (h : Sep G B l) (hk : l[kk]? = some (rowsAB 2 u eo ei n C F a b)) (hN : Up B G.length) (hs : sizeT P eo = some 2) (hm : i.toNat < n) (ha : a ≤ i.toNat * 2) (hb : i.toNat * 2 + 2 ≤ b) (hF : F'.length = F.length) (hF' : ∀ x, (x < a ∨ b ≤ x) → F'[x]? = F[x]?) :
    ∃ G', aStore P G eo (elP u (i.toNat * 2)) (.agg #[c1, c2]) = some G' ∧ Sep G' B (l.set kk (rowsAB 2 u eo ei n (putP C i c1 c2) F' a b)) ∧ AgB B G G' := by
  have r := h.abF hk
  have hCl := r.out.1
  obtain ⟨G1, p1, p2, p3, p4⟩ := r.out.put (P := P) (v' := .agg #[c1, c2]) (new := [c1, c2]) hs hm rfl rfl rfl
  have get : ∀ x, (x < a ∨ b ≤ x) → (putP C i c1 c2)[x]? = C[x]? := fun x hx => by
    rw [putP_get (by omega), if_neg (by omega), if_neg (by omega)]
  obtain ⟨G', q, s1, s2, s3⟩ := h.step (it' := rowsAB 2 u eo ei n (putP C i c1 c2) F' a b) hk hN (fun G' => G' = G1) fun A ⟨ra, rA⟩ hA => by
    subst rA
    refine ⟨G1, _, rfl, ⟨⟨p2, by rw [putP_len (by omega), hF, ra.len], fun m c xs hm hc hx => ?_, fun j m c d i hj hm hjm hc hd => ?_, fun m c hm hc => ?_⟩, rfl⟩, fun i hi => .inl ?_, by omega, fun i hi hm => p4 i fun hu => hm (List.mem_append_left _ (mem_ids.2 hu))⟩
    · rw [get m hm] at hc
      rw [hF' m hm] at hx
      exact (ra.row m c xs hm hc hx).at fun i hi => p4 i (ra.inner m c hm hc i hi)
    · rw [get j hj] at hc
      rw [get m hm] at hd
      exact ra.apart j m c d i hj hm hjm hc hd
    · rw [get m hm] at hc
      exact ra.inner m c hm hc
    · rcases mem_ab.1 hi with hi | ⟨m, c, hm, hc, hi⟩
      · exact mem_ab.2 (.inl hi)
      · rw [get m hm] at hc
        exact mem_ab.2 (.inr ⟨m, c, hm, hc, hi⟩)
  subst q
  exact ⟨G', p1, s1, s2⟩
theorem Sep.abGive (h : Sep G B l) (hjk : k1 ≠ k2) (hj : l[k1]? = some (rowsAB k u eo ei n C F a b)) (hk : l[k2]? = some (flat c ei zs)) (hc : C[a]? = some c) (hx : F[a]? = some zs) (hab : a < b) : Sep G B ((l.set k1 (rowsAB k u eo ei n C F (a + 1) b)).set k2 emp) := by
  have h1 := h.join hjk hj hk
  have jl := (List.getElem?_eq_some_iff.1 hj).1
  have hj' : ((l.set k1 (star (rowsAB k u eo ei n C F a b) (flat c ei zs))).set k2 emp)[k1]? = some (star (rowsAB k u eo ei n C F a b) (flat c ei zs)) := by
    rw [List.getElem?_set_ne (fun e => hjk e.symm), List.getElem?_set_self jl]
  have h2 := h1.turn (it' := rowsAB k u eo ei n C F (a + 1) b) hj' fun A ⟨A1, A2, e1, ⟨r, rA⟩, ⟨o, oA⟩, d⟩ => by
    subst rA oA e1
    have old : ∀ {m : Nat}, (m < a + 1 ∨ b ≤ m) → m ≠ a → (m < a ∨ b ≤ m) := fun hm hne => by omega
    refine ⟨_, ⟨⟨r.out, r.len, fun m c' xs hm hc' hx' => ?_, fun j m c' d' i hj hm hjm hc' hd' hi hi' => ?_, fun m c' hm hc' i hi hu => ?_⟩, rfl⟩, fun i hi => ?_⟩
    · by_cases e : m = a
      · subst e
        rw [hc] at hc'
        rw [hx] at hx'
        cases hc'
        cases hx'
        exact o
      · exact r.row m c' xs (old hm e) hc' hx'
    · by_cases e : j = a
      · subst e
        rw [hc] at hc'
        cases hc'
        exact d i (mem_ab.2 (.inr ⟨m, d', old hm (by omega), hd', hi'⟩)) (mem_ids.2 hi)
      · by_cases e2 : m = a
        · subst e2
          rw [hc] at hd'
          cases hd'
          exact d i (mem_ab.2 (.inr ⟨j, c', old hj e, hc', hi⟩)) (mem_ids.2 hi')
        · exact r.apart j m c' d' i (old hj e) (old hm e2) hjm hc' hd' hi hi'
    · by_cases e : m = a
      · subst e
        rw [hc] at hc'
        cases hc'
        exact d i (mem_ab.2 (.inl hu)) (mem_ids.2 hi)
      · exact r.inner m c' (old hm e) hc' i hi hu
    · rcases mem_ab.1 hi with hi | ⟨m, c', hm, hc', hi⟩
      · exact List.mem_append_left _ (mem_ab.2 (.inl hi))
      · by_cases e : m = a
        · subst e
          rw [hc] at hc'
          cases hc'
          exact List.mem_append_right _ (mem_ids.2 hi)
        · exact List.mem_append_left _ (mem_ab.2 (.inr ⟨m, c', old hm e, hc', hi⟩))
  have e : (((l.set k1 (star (rowsAB k u eo ei n C F a b) (flat c ei zs))).set k2 emp).set k1 (rowsAB k u eo ei n C F (a + 1) b)) = (l.set k1 (rowsAB k u eo ei n C F (a + 1) b)).set k2 emp := by
    rw [List.set_comm _ _ (fun e => hjk e.symm), List.set_set]
  rwa [e] at h2
theorem Sep.putPD (h : Sep G B l) (d1 : kk ≠ k1) (d2 : kk ≠ k2) (d3 : k1 ≠ k2) (hk : l[kk]? = some (rowsPD u eo ei C Y i j)) (h1 : l[k1]? = some (flat c1 ei (ints xs))) (h2 : l[k2]? = some (flat c2 ei (ints ys))) (hN : Up B G.length) (hs : sizeT P eo = some 2) (hi : inL Y i) (hij : i.toNat < j.toNat) (hl : Y.length ≤ 4294967296) :
    ∃ G', aStore P G eo (elP u (i.toNat * 2)) (.agg #[c1, c2]) = some G' ∧ Sep G' B (((l.set kk (rowsPD u eo ei (putP C i c1 c2) (lset Y i (xs, ys)) (iadd .i64 i 1) j)).set k1 emp).set k2 emp) ∧ AgB B G G' := by
  have r := h.abF hk
  have hCl := r.out.1
  have hkl := (List.getElem?_eq_some_iff.1 hk).1
  have hiY : i.toNat < Y.length := by unfold inL at hi; omega
  have hYl : (lset Y i (xs, ys)).length = Y.length := by simp [lset]
  have hget : ∀ x f, x < Y.length → f < 2 → ((lset Y i (xs, ys)).flatMap pr2)[x * 2 + f]? = if x = i.toNat then (pr2 (xs, ys))[f]? else (Y.flatMap pr2)[x * 2 + f]? := fun x f hx hf => by
    rw [pr2_get _ _ _ (by omega) hf, pr2_get _ _ _ hx hf]
    by_cases e : x = i.toNat
    · subst e
      simp [lset, List.getD_eq_getElem?_getD, hiY]
    · rw [if_neg e]
      simp [lset, List.getD_eq_getElem?_getD, List.getElem?_set_ne (Ne.symm e)]
  obtain ⟨G', p1, s1, p3⟩ := h.abPut (P := P) (i := i) (c1 := c1) (c2 := c2) (F' := (lset Y i (xs, ys)).flatMap pr2) hk hN hs hiY (Nat.le_refl _) (by omega) (by rw [pr2_len, pr2_len, hYl]) (fun x hx => by
    by_cases hxl : x < Y.length * 2
    · have := hget (x / 2) (x % 2) (by omega) (by omega)
      rw [if_neg (by omega), show x / 2 * 2 + x % 2 = x by omega] at this
      exact this
    · rw [List.getElem?_eq_none (by rw [pr2_len, hYl]; omega), List.getElem?_eq_none (by rw [pr2_len]; omega)])
  have g0 := hget i.toNat 0 hiY (by omega)
  have g1 := hget i.toNat 1 hiY (by omega)
  rw [if_pos rfl] at g0 g1
  have s2 := s1.abGive (k1 := kk) (k2 := k1) d1 (List.getElem?_set_self hkl) (by rw [List.getElem?_set_ne d1, h1]) (by rw [putP_get (by omega), if_pos rfl]) (zs := ints xs) g0 (by omega)
  rw [List.set_set] at s2
  have s3 := s2.abGive (k1 := kk) (k2 := k2) d2 (by rw [List.getElem?_set_ne (Ne.symm d1), List.getElem?_set_self hkl]) (by rw [List.getElem?_set_ne d3, List.getElem?_set_ne d2, h2]) (by rw [putP_get (by omega), if_neg (by omega), if_pos rfl]) (zs := ints ys) g1 (by omega)
  refine ⟨G', p1, ?_, p3⟩
  rw [List.set_comm _ _ (Ne.symm d1), List.set_set] at s3
  unfold rowsPD
  rw [step_nat hi hl, hYl, show (i.toNat + 1) * 2 = i.toNat * 2 + 1 + 1 by omega]
  exact s3
theorem subP_head (h : SlK 2 G u n C) (he : elemT P t = some e) (hs : sizeT P e = some 2) (hi : 0 ≤ i) (hn : i.toNat < n) : aSlice P G t u none (some (.int .i64 i)) none = some (subP u 0 i.toNat) := by
  obtain ⟨h0, h⟩ := h
  rcases h with ⟨rfl, rfl⟩ | ⟨b, off, g, c, o, rfl, h1, h2, h3, h4⟩
  · omega
  · simp [aSlice, h1, he, hs, idxV, hi, h4, subP, Nat.le_of_lt hn]
theorem subP_tail (h : SlK 2 G u n C) (he : elemT P t = some e) (hs : sizeT P e = some 2) (hi : 0 ≤ i) (hn : i.toNat < n) : aSlice P G t u (some (.int .i64 i)) none none = some (subP u i.toNat n) := by
  obtain ⟨h0, h⟩ := h
  rcases h with ⟨rfl, rfl⟩ | ⟨b, off, g, c, o, rfl, h1, h2, h3, h4⟩
  · omega
  · simp [aSlice, h1, he, hs, idxV, hi, h4, subP, Nat.le_of_lt hn]
theorem OwnK.clear (h : OwnK 2 G e u n C) (he : elemT P t = some e) (hq : einfo P e = some q) (hq1 : q.size = 2) (ha : a < n) :
    ∃ G' D, aClear P G t (subP u a n) = some (.tuple #[], G') ∧ OwnK 2 G' e u n (C.take (a * 2) ++ D) ∧ G'.length = G.length ∧ ∀ i, idOf u ≠ some i → G'[i]? = G[i]? := by
  obtain ⟨h0, h⟩ := h
  rcases h with ⟨rfl, rfl⟩ | ⟨i, off, g, c, o, rfl, h1, h2, h3, h4, h5, h6, h7⟩
  · omega
  · have hal : alive G i g = some o := by simp [alive, h1, h2]
    have hlt := (List.getElem?_eq_some_iff.1 h1).1
    have hz : (zeros q ((n - a) * 2)).length = (n - a) * 2 := by simp [zeros]
    simp only [subP, aClear, he, hal, hq, hq1]
    rw [if_neg (by omega), if_pos ⟨h5, by omega⟩]
    refine ⟨_, zeros q ((n - a) * 2), rfl, ⟨by simp [hz]; omega, .inr ⟨i, off, g, c, _, rfl, List.getElem?_set_self hlt, h2, h3, h4, h5, by simp [hz]; omega, ?_⟩⟩, by simp, fun j hne => ?_⟩
    · have := putL (L := o.cells) (new := zeros q ((n - a) * 2)) (off := off) (a := a * 2) (len := C.length) (by omega) (by omega)
      rw [hz, h7, List.drop_eq_nil_of_le (by omega : C.length ≤ a * 2 + (n - a) * 2), List.append_nil] at this
      rw [show (C.take (a * 2) ++ zeros q ((n - a) * 2)).length = C.length by simp [hz]; omega]
      exact this
    · rw [List.getElem?_set_ne]
      rintro rfl
      exact hne rfl
theorem OwnK.head (h : OwnK 2 G e u n C) (ha : a < n) : OwnK 2 G e (subP u 0 a) a (C.take (a * 2)) := by
  obtain ⟨h0, h⟩ := h
  rcases h with ⟨rfl, rfl⟩ | ⟨i, off, g, c, o, rfl, h1, h2, h3, h4, h5, h6, h7⟩
  · omega
  · refine ⟨by simp; omega, .inr ⟨i, off, g, _, o, by simp [subP]; rfl, h1, h2, h3, h4, h5, by simp; omega, ?_⟩⟩
    rw [← h7, List.take_take]
    congr 1
    simp
    omega
theorem idOf_head (h : OwnK 2 G e u n C) (ha : a < n) : idOf (subP u 0 a) = idOf u := by
  obtain ⟨h0, h⟩ := h
  rcases h with ⟨rfl, rfl⟩ | ⟨i, off, g, c, o, rfl, h1⟩
  · omega
  · rfl
theorem Sep.clearPD (h : Sep G B l) (hk : l[kk]? = some (rowsPD u eo ei C Y i j)) (hN : Up B G.length) (he : elemT P t = some eo) (hq : einfo P eo = some q) (hq1 : q.size = 2) (hi : inL Y i) (hj : j = llen Y) :
    ∃ G' D, aClear P G t (subP u i.toNat Y.length) = some (.tuple #[], G') ∧ Sep G' B (l.set kk (rowsPD u eo ei D Y i j)) ∧ AgB B G G' := by
  have r := h.abF hk
  have hCl := r.out.1
  have hiY : i.toNat < Y.length := by unfold inL at hi; omega
  obtain ⟨G1, D, p1, p2, p3, p4⟩ := r.out.clear (P := P) he hq hq1 hiY
  have hDl := p2.1
  have jl : j.toNat = Y.length := by subst hj; simp [llen]
  have get : ∀ x : Nat, (x < i.toNat * 2 ∨ j.toNat * 2 ≤ x) → (C.take (i.toNat * 2) ++ D)[x]? = C[x]? := fun x hx => by
    rcases hx with hx | hx
    · rw [List.getElem?_append_left (by simp; omega), List.getElem?_take_of_lt hx]
    · rw [List.getElem?_eq_none (by omega), List.getElem?_eq_none (by omega)]
  obtain ⟨G', q', s1, s2, s3⟩ := h.step (it' := rowsPD u eo ei (C.take (i.toNat * 2) ++ D) Y i j) hk hN (fun G' => G' = G1) fun A ⟨ra, rA⟩ hA => by
    subst rA
    refine ⟨G1, _, rfl, ⟨⟨p2, by rw [pr2_len, hDl], fun m c xs hm hc hx => ?_, fun j m c d i hj hm hjm hc hd => ?_, fun m c hm hc => ?_⟩, rfl⟩, fun i hi => .inl ?_, by omega, fun i hi hm => p4 i fun hu => hm (List.mem_append_left _ (mem_ids.2 hu))⟩
    · rw [get m hm] at hc
      exact (ra.row m c xs hm hc hx).at fun i hi => p4 i (ra.inner m c hm hc i hi)
    · rw [get j hj] at hc
      rw [get m hm] at hd
      exact ra.apart j m c d i hj hm hjm hc hd
    · rw [get m hm] at hc
      exact ra.inner m c hm hc
    · rcases mem_ab.1 hi with hi | ⟨m, c, hm, hc, hi⟩
      · exact mem_ab.2 (.inl hi)
      · rw [get m hm] at hc
        exact mem_ab.2 (.inr ⟨m, c, hm, hc, hi⟩)
  subst q'
  exact ⟨G', _, p1, s1, s2⟩
theorem Sep.headPD (h : Sep G B l) (hk : l[kk]? = some (rowsPD u eo ei C Y i j)) (hi : inL Y i) : Sep G B (l.set kk (rowsP (subP u 0 i.toNat) eo ei (C.take (i.toNat * 2)) (Y.take i.toNat))) := h.turn hk fun A ⟨r, rA⟩ => by
  subst rA
  have hCl := r.out.1
  have hiY : i.toNat < Y.length := by unfold inL at hi; omega
  have hYt : (Y.take i.toNat).length = i.toNat := by simp; omega
  have hget : ∀ (m : Nat) (c : Value), (C.take (i.toNat * 2))[m]? = some c → m < i.toNat * 2 ∧ C[m]? = some c := fun m c hm => by
    have hlt := (List.getElem?_eq_some_iff.1 hm).1
    simp at hlt
    rw [List.getElem?_take_of_lt (by omega)] at hm
    exact ⟨by omega, hm⟩
  have hF : ∀ m, m < i.toNat * 2 → ((Y.take i.toNat).flatMap pr2)[m]? = (Y.flatMap pr2)[m]? := fun m hm => by
    have e1 := pr2_get (Y.take i.toNat) (m / 2) (m % 2) (by omega) (by omega)
    have e2 := pr2_get Y (m / 2) (m % 2) (by omega) (by omega)
    rw [show m / 2 * 2 + m % 2 = m by omega] at e1 e2
    rw [e1, e2]
    congr 2
    simp only [List.getD_eq_getElem?_getD]
    rw [List.getElem?_take_of_lt (by omega)]
  have hid := idOf_head r.out hiY
  refine ⟨_, ⟨⟨by rw [hYt]; exact r.out.head hiY, by rw [pr2_len, hYt]; simp; omega, fun m c xs hc hx => ?_, fun j m c d i hjm hc hd => ?_, fun c hc => ?_⟩, rfl⟩, fun i hi => ?_⟩
  · obtain ⟨hm, hc⟩ := hget m c hc
    rw [hF m hm] at hx
    exact r.row m c xs (.inl hm) hc hx
  · obtain ⟨hj, hc⟩ := hget j c hc
    obtain ⟨hm, hd⟩ := hget m d hd
    exact r.apart j m c d i (.inl hj) (.inl hm) hjm hc hd
  · obtain ⟨m, hm⟩ := List.getElem?_of_mem hc
    obtain ⟨hm, hc⟩ := hget m c hm
    rw [hid]
    exact r.inner m c (.inl hm) hc
  · rcases List.mem_append.1 hi with hi | hi
    · rw [mem_ids, hid] at hi
      exact mem_ab.2 (.inl hi)
    · obtain ⟨c, hcC, hi⟩ := List.mem_flatMap.1 hi
      obtain ⟨m, hm⟩ := List.getElem?_of_mem hcC
      obtain ⟨hm, hc⟩ := hget m c hm
      exact mem_ab.2 (.inr ⟨m, c, .inl hm, hc, mem_ids.1 hi⟩)
theorem Sep.tailV (h : Sep G B l) (hk : l[kk]? = some (rowsPD u eo ei C Y i j)) (he : elemT P t = some e) (hs : sizeT P e = some 2) (hi : inL Y i) : aSlice P G t u (some (.int .i64 i)) none none = some (subP u i.toNat Y.length) :=
  subP_tail (h.outPD hk) he hs hi.1 (by unfold inL at hi; omega)
theorem Sep.headV (h : Sep G B l) (hk : l[kk]? = some (rowsPD u eo ei C Y i j)) (he : elemT P t = some e) (hs : sizeT P e = some 2) (hi : inL Y i) : aSlice P G t u none (some (.int .i64 i)) none = some (subP u 0 i.toNat) :=
  subP_head (h.outPD hk) he hs hi.1 (by unfold inL at hi; omega)
end
end Go.Proofs.Ytbckijeffiofdaa.AL
namespace Go.Proofs.Ytbckijeffiofdaa.AL
open Go Go.RowKit
attribute [local simp] aBin' aBin aBinI aUn aNil flatV
set_option linter.unusedVariables false
set_option linter.unusedSimpArgs false
section
variable {β : Type} {fr : β → List Value} {X : List β} {d : β} {P : Program} {G G1 H : AH} {B : Nat → Prop} {l : List Item} {u v c c1 : Value} {C zs : List Value} {F F' : List (List Value)} {xs : β} {t e eo ei : TypeId} {k kk k1 k2 a b n m : Nat} {y z i j : Int} {ki : IntKind} {q : EInfo}
end
end Go.Proofs.Ytbckijeffiofdaa.AL
namespace Go.Proofs.Ytbckijeffiofdaa.AL
open Go Go.RowKit
attribute [local simp] aBin' aBin aBinI aUn aNil flatV
set_option linter.unusedVariables false
set_option linter.unusedSimpArgs false
theorem Bx.later {G G1 : AH} {B : Nat → Prop} {p : Value} {cells : List Value} (h : ∃ F, (AL.box p cells).P G F ∧ ∀ i ∈ F, ¬ B i) (a : AgB B G G1) : Bx G1 p cells := by
  obtain ⟨F, ⟨i, ⟨e, o, b, c⟩, rfl⟩, h2⟩ := h
  exact ⟨i, e, o, (a.2 i (h2 i (by simp))).trans b, c⟩
end Go.Proofs.Ytbckijeffiofdaa.AL
namespace Go.Proofs.Ytbckijeffiofdaa.AL
open Go Go.RowKit
attribute [local simp] aBin' aBin aBinI aUn aNil flatV
set_option linter.unusedVariables false
set_option linter.unusedSimpArgs false
abbrev I2 := Int × Int
def ce (p : I2) : List Value := [.int .i64 p.1, .int .i64 p.2]
def ces (X : List I2) : List Value := X.flatMap ce
def i2 : I2 := (0, 0)
theorem ces_at : ∀ (X : List I2) (j : Nat), j < X.length → ((ces X).drop (j * 2)).take 2 = ce (X.getD j i2)
  | x :: X, 0, _ => by simp [ces, ce]
  | x :: X, j + 1, h => by
    have := ces_at X j (by simpa using h)
    rw [show ces (x :: X) = ce x ++ ces X from List.flatMap_cons, show (j + 1) * 2 = (ce x).length + j * 2 by simp [ce]; omega, List.drop_append, List.drop_of_length_le (Nat.le_add_right _ _), List.nil_append, Nat.add_sub_cancel_left, this]
    simp
def SlI (G : AH) (v : Value) (X : List I2) : Prop := SlK 2 G v X.length (ces X)
section
variable {P : Program} {G G1 H : AH} {B : Nat → Prop} {l : List Item} {u v s : Value} {X Y : List I2} {t t2 e : TypeId} {j k : Nat} {q : EInfo} {n : Int} {kk : IntKind} {a b : Int}
theorem SlI.agree (h : SlI G v X) (a : Agree G.length G G1) : SlI G1 v X := SlK.agree h a
theorem SlI.agr (h : SlI H v X) (a : AgB B H G) (hd : ∀ i, idOf v = some i → ¬ B i) : SlI G v X := by
  obtain ⟨h0, h⟩ := h
  refine ⟨h0, ?_⟩
  rcases h with h | ⟨i, off, g, c, o, rfl, h1, h2⟩
  · exact .inl h
  · obtain ⟨a1, a2⟩ := alive_some h1
    exact .inr ⟨i, off, g, c, o, rfl, by simp [alive, a.2 i (hd i rfl), a1, a2], h2⟩
theorem SlI.id_lt (h : SlI G v X) {i : Nat} (hi : idOf v = some i) : i < G.length := by
  obtain ⟨h0, h⟩ := h
  rcases h with ⟨rfl, _⟩ | ⟨i', off, g, c, o, rfl, h1, _⟩
  · simp [idOf] at hi
  · simp [idOf] at hi
    subst hi
    exact (List.getElem?_eq_some_iff.1 (alive_some h1).1).1
theorem SlI.tup (h : SlI G v X) : isTup v = false := SlK.tup h
theorem SlI.one (h : SlI G v X) : v.cells = #[v] := SlK.one h
theorem SlI.nil : SlI G nilV [] := ⟨rfl, .inl ⟨rfl, rfl⟩⟩
theorem SlI.lenG (h : SlI G v X) (he : elemT P t = some e) : aLen P G t v = some (.int .i64 (llen X)) := SlK.len h he
theorem SlI.idxG (h : SlI G v X) (he : elemT P t = some e) (hs : sizeT P e = some 2) (hi : inL X n) : aIndexAddr P G t v (.int kk n) = some (elP v (n.toNat * 2)) := by
  have := SlK.idx (kk := kk) h he hs (j := n.toNat) (by unfold inL at hi; omega)
  rwa [Int.toNat_of_nonneg hi.1] at this
theorem SlI.loadG (h : SlI G v X) (hs : sizeT P e = some 2) (hb : aggT P e = some true) (hi : inL X n) : aLoad P G e (elP v (n.toNat * 2)) = some (.agg #[.int .i64 (gat i2 X n).1, .int .i64 (gat i2 X n).2]) := by
  have hj : n.toNat < X.length := by unfold inL at hi; omega
  rw [SlK.agg h hs hb hj, ces_at X _ hj, ← gat_eq]
  rfl
def arrV (p : Value) (n : Nat) : Value := match p with
  | .pointer (some ⟨i, o, some g⟩) => .slice (some ⟨i, o, some g⟩) n n
  | v => v
theorem BoxAt.arr {p : Value} {cells : List Value} {i n : Nat} (h : BoxAt G p cells i) (hu : P.underlying t = some (.array n e)) (hs : sizeT P e = some 1) (hn : cells.length = n) : aSlice P G t p none none none = some (arrV p n) ∧ Sl G (arrV p n) cells := by
  obtain ⟨rfl, o, h1, h2, rfl, h3, hz⟩ := h
  have ha : alive G i 0 = some o := by simp [alive, h1, h2]
  refine ⟨?_, .inr ⟨i, 0, 0, n, o, by simp [arrV, ptrAt, hn], ha, by simp, by simp, hz⟩⟩
  simp [ptrAt, aSlice, ha, hu, hs, hz, hn, arrV]
end
end Go.Proofs.Ytbckijeffiofdaa.AL
namespace Go.Proofs.Ytbckijeffiofdaa.AL
open Go Go.RowKit
attribute [local simp] aBin' aBin aBinI aUn aNil flatV
set_option linter.unusedVariables false
set_option linter.unusedSimpArgs false
section
variable {β : Type} {fr : β → List Value} {X : List β} {y : β} {P : Program} {G G1 H : AH} {B : Nat → Prop} {l : List Item} {u v c s : Value} {C cells new : List Value} {F : List (List Value)} {t t2 e eo ei : TypeId} {j k w : Nat} {q : EInfo} {a b : Int}
theorem gat_last {α : Type} {d x : α} {C : List α} {n : Int} (h : n = (C.length : Int)) : gat d (C ++ [x]) n = x := by
  subst h
  simp [gat_eq]
theorem Sep.lastV (h : Sep G B l) (hk : l[k]? = some (rowsC u eo ei (C ++ [c]) ((lapp X [y]).map fr))) : gat nilV (C ++ [c]) (llen X) = c := by
  have := (h.rd hk).len
  simp [lapp] at this
  exact gat_last (by simp [llen, this])
end
end Go.Proofs.Ytbckijeffiofdaa.AL
namespace Go.Proofs.Ytbckijeffiofdaa.AL
open Go Go.RowKit
section
variable {P : Program} {nt : Nat} {env : Env} {H : AH} {Q : Exit → Env → AH → Prop} {id : Nat} {ops : Array Oper} {y : Code}
theorem DWp.sr (h : ∀ K : Env → AH → Prop, (∀ env H, DWp P nt y Q env H → K env H) → ARunD P nt ops 0 K 0 ops.toList env H) : DWp P nt (.seq (.region id ops false) y) Q env H := DWp.seq (DWp.region h)
theorem DWp.sd {B : List Nat} (k : Nat) (hm : P.follows .mixedOrders = true) (hc : chk ops B k = true) (hk : k ≤ ops.size) (h : ∀ K : Env → AH → Prop, (∀ env H, DWp P nt y Q env H → K env H) → ARunD P nt ops k K 0 ops.toList env H) : DWp P nt (.seq (.region id ops true) y) Q env H := DWp.seq (DWp.drawn k hm hc hk h)
theorem DWp.sl {B : List Nat} {X0 : List Nat} {π σ : List Nat} (k : Nat) (K : Nat → Bool) (N : Nat) (hm : P.follows .mixedOrders = true) (hp : okP ops.size π σ = true) (hc : chkL (rlL π σ ops.toList).toArray B k X0 = true) (hk : k ≤ ops.size)
    (h : ∀ NN : Env → AH → Prop, (∀ env H, DWp P nt y Q env H → NN env H) → ARunL P nt (rl0 π σ ops.toList).toArray k K N X0 NN 0 (rl0 π σ ops.toList) env H) : DWp P nt (.seq (.region id ops true) y) Q env H := DWp.seq (DWp.drawn0 k K N hm hp hc hk h)
end
end Go.Proofs.Ytbckijeffiofdaa.AL
namespace Go.Proofs.Ytbckijeffiofdaa.AL
open Go Go.RowKit
set_option linter.unusedVariables false
set_option linter.unusedSimpArgs false
section
variable {P : Program} {G G1 H : AH} {B : Nat → Prop} {l : List Item} {u v s : Value} {cells : List Value} {t t2 e : TypeId} {j k : Nat} {q : EInfo}
theorem Sep.lit7 (h : Sep G B l) (hN : Up B G.length) (he : elemT P t = some e) (hq : einfo P e = some q) (hq1 : q.size = 1) (x0 x1 x2 x3 x4 x5 x6 : Value) (h0 : isTup x0 = false) (c0 : x0.cells = #[x0]) (h1 : isTup x1 = false) (c1 : x1.cells = #[x1]) (h2 : isTup x2 = false) (c2 : x2.cells = #[x2]) (h3 : isTup x3 = false) (c3 : x3.cells = #[x3]) (h4 : isTup x4 = false) (c4 : x4.cells = #[x4]) (h5 : isTup x5 = false) (c5 : x5.cells = #[x5]) (h6 : isTup x6 = false) (c6 : x6.cells = #[x6]) :
    ∃ v G', aBuildSlice P G t 7 [(0, x0), (1, x1), (2, x2), (3, x3), (4, x4), (5, x5), (6, x6)] = some (v, G') ∧ Sep G' B (l ++ [flat1 v e [x0, x1, x2, x3, x4, x5, x6]]) ∧ Agree G.length G G' ∧ isTup v = false ∧ v.cells = #[v] := by
  refine ⟨_, _, ?_, h.lit hN e [x0, x1, x2, x3, x4, x5, x6] 7, Agree.app _ _, rfl, rfl⟩
  obtain ⟨qs, qb, qz⟩ := q
  simp only at hq1
  subst hq1
  have hn : noTup [(0, x0), (1, x1), (2, x2), (3, x3), (4, x4), (5, x5), (6, x6)] = true := by
    unfold noTup
    simp [h0, h1, h2, h3, h4, h5, h6]
  simp [aBuildSlice, he, hq, hn, fillL, zeros, c0, c1, c2, c3, c4, c5, c6, aNew, List.range_succ]
theorem build1of {z x z0 : Value} {zs : List Value} {pl : Nat → Option (Nat × Nat)} (hp : placeT P t = some (z, pl)) (hz : constV z = true) (hl : z.cells.toList = z0 :: zs) (h0 : pl 0 = some (0, 1)) (hx : isTup x = false) (hc : x.cells = #[x]) : aBuild P t [(0, x)] = some (.agg (x :: zs).toArray) := by
  have hn : noTup [(0, x)] = true := by
    unfold noTup
    simpa using hx
  unfold aBuild
  rw [hp]
  simp only [hz, hn, and_self, if_true]
  simp [fillL, hl, h0, hc]
end
end Go.Proofs.Ytbckijeffiofdaa.AL
