/- AL, part 1: how the relation stands behind a new object, a store, an append. No condition. -/
import Derived.Test.YtbckijeffiofdaaAL0
namespace Go.Proofs.Ytbckijeffiofdaa.AL
open Go Go.RowKit
set_option linter.unusedVariables false
set_option linter.unusedSimpArgs false

def bup (β : BM) (i : Nat) (l : Loc) : BM := fun j => if j = i then some l else β j
theorem bup_same (β : BM) (i : Nat) (l : Loc) : bup β i l i = some l := by simp [bup]
theorem bup_other {β : BM} {i j : Nat} {l : Loc} (h : j ≠ i) : bup β i l j = β j := by simp [bup, h]
theorem bup_id {β : BM} {i : Nat} {l : Loc} (h : β i = some l) : bup β i l = β := by
  funext j
  by_cases e : j = i
  · subst e; simp [bup, h]
  · simp [bup, e]

/-- What neither lays nor writes: draws, say. -/
structure SameHeap (w w' : World) : Prop where
  os : w'.os = w.os
  tape : w'.tape = w.tape
  output : w'.output = w.output
  heap : w'.heap = w.heap
theorem SameHeap.drew (w : World) : SameHeap w w.drew := ⟨rfl, rfl, rfl, rfl⟩
theorem Rel.same {β : BM} {H : AH} {w w' : World} (R : Rel β H w) (h : SameHeap w w') : Rel β H w' where
  dom := R.dom
  loc := fun i l hl => by rw [h.heap]; exact R.loc i l hl
  inj := R.inj
  obj := fun i o l ho hl => by
    obtain ⟨h1, h2, h3, h4, h5, h6⟩ := R.obj i o l ho hl
    refine ⟨h1, h2, h3, h4, fun j c hc => ?_, fun hr => by rw [h.heap]; exact h6 hr⟩
    obtain ⟨v, hv, t⟩ := h5 j c hc
    exact ⟨v, by simpa [World.cell?, h.heap] using hv, t⟩
theorem Ext.same {β : BM} {w w' : World} (N : Nat) (h : SameHeap w w') : Ext N β w β w' :=
  ⟨h.os, h.tape, h.output, by rw [h.heap]; exact Nat.le_refl _, fun _ _ _ => by rw [h.heap], fun i l hl => ⟨l, hl, rfl, rfl, .inl rfl⟩, fun _ _ hn => hn, fun i l hl => .inl ⟨l, hl, rfl, rfl⟩⟩

section upd
variable {β : BM} {H : AH} {w w' : World} {i : Nat} {o o' : AO} {l l' : Loc}
theorem Rel.upd_ext (R : Rel β H w) (hl : β i = some l) (hro : l.ro = false)
    (h1 : w'.os = w.os) (h2 : w'.tape = w.tape) (h3 : w'.output = w.output) (h4 : w.heap.size ≤ w'.heap.size)
    (hk : ∀ k, k < w.heap.size → k ≠ l.b → w'.heap[k]? = w.heap[k]?) (hb : l'.b = l.b ∨ w.heap.size ≤ l'.b) (hg : l' = l ∨ l.gen < l'.gen) (hs : l'.sz = l.sz) (hr : l'.ro = l.ro) :
    Ext H.length β w (bup β i l') w' where
  os := h1
  tape := h2
  output := h3
  size := h4
  keep := fun b hb hr => hk b hb (fun e => by have := hr i l hl e.symm; rw [hro] at this; exact absurd this (by simp))
  mono := fun j m hm => by
    by_cases e : j = i
    · subst e
      rw [hl] at hm
      cases hm
      exact ⟨l', bup_same _ _ _, hs, hr, hg⟩
    · exact ⟨m, by rw [bup_other e]; exact hm, rfl, rfl, .inl rfl⟩
  hole := fun j _ hn => by
    by_cases e : j = i
    · subst e; rw [hl] at hn; cases hn
    · rw [bup_other e]; exact hn
  fresh := fun j m hm => by
    by_cases e : j = i
    · subst e
      rw [bup_same] at hm
      cases hm
      rcases hb with hb | hb
      · exact .inl ⟨l, hl, hb.symm, hr.symm⟩
      · exact .inr hb
    · rw [bup_other e] at hm; exact .inl ⟨m, hm, rfl, rfl⟩
theorem Rel.upd (R : Rel β H w) (ho : H[i]? = some o) (hl : β i = some l) (hro : o.ro = false)
    (h1 : w'.os = w.os) (h2 : w'.tape = w.tape) (h3 : w'.output = w.output) (h4 : w.heap.size ≤ w'.heap.size)
    (hk : ∀ k, k < w.heap.size → k ≠ l.b → w'.heap[k]? = w.heap[k]?) (hb : l'.b = l.b ∨ (w.heap.size ≤ l'.b ∧ l'.b < w'.heap.size)) (hg : l' = l ∨ l.gen < l'.gen)
    (e1 : o'.elem = o.elem) (e2 : o'.sz = o.sz) (e3 : o'.ro = false) (f1 : l'.gen = o'.gen) (f2 : l'.sz = o.sz) (f3 : l'.ro = false)
    (arr : List Value) (ha : w'.heap[l'.b]? = some (.cells arr.toArray o.elem (0, 0))) (hf : arr.length = l'.fin) (hfit : l'.base + o'.cells.length ≤ l'.fin)
    (hc : All2 (T1 β) o'.cells ((arr.drop l'.base).take o'.cells.length)) :
    Rel (bup β i l') (H.set i o') w' ∧ Ext H.length β w (bup β i l') w' := by
  obtain ⟨g1, g2, g3, g4, g5, g6⟩ := R.obj i o l ho hl
  have hi : i < H.length := (List.getElem?_eq_some_iff.1 ho).1
  have E : Ext H.length β w (bup β i l') w' := R.upd_ext hl (g3.trans hro) h1 h2 h3 h4 hk (hb.imp id (·.1)) hg (f2.trans g2.symm) (f3.trans (g3.trans hro).symm)
  refine ⟨⟨fun j hj => ?_, fun j m hm => ?_, fun j k a b ha' hb' hne => ?_, fun j p m hp hm => ?_⟩, E⟩
  · rw [List.length_set] at hj
    rw [bup_other (by omega)]
    exact R.dom j hj
  · by_cases e : j = i
    · subst e
      rw [bup_same] at hm
      cases hm
      exact (Array.getElem?_eq_some_iff.1 ha).1
    · rw [bup_other e] at hm
      exact Nat.lt_of_lt_of_le (R.loc j m hm) h4
  · have key : ∀ {q : Nat} {c : Loc}, q ≠ i → bup β i l' q = some c → l'.b ≠ c.b := by
      intro q c hq hc'
      rw [bup_other hq] at hc'
      intro he
      rcases hb with hb | ⟨hb, _⟩
      · have := (R.inj i q l c hl hc' (fun e => hq e.symm) (hb.symm.trans he)).1
        rw [g3, hro] at this
        cases this
      · have := R.loc q c hc'
        omega
    intro he
    by_cases e : j = i
    · subst e
      rw [bup_same] at ha'
      cases ha'
      exact absurd he (key (fun e => hne e.symm) hb')
    · by_cases e' : k = i
      · subst e'
        rw [bup_same] at hb'
        cases hb'
        exact absurd he.symm (key e ha')
      · rw [bup_other e] at ha'
        rw [bup_other e'] at hb'
        exact R.inj j k a b ha' hb' hne he
  · by_cases e : j = i
    · subst e
      rw [bup_same] at hm
      cases hm
      rw [List.getElem?_set_self hi] at hp
      cases hp
      refine ⟨f1, f2.trans e2.symm, f3.trans e3.symm, hfit, fun q c hq => ?_, fun _ => ⟨arr.toArray, by rw [e1]; exact ha, by simpa using hf⟩⟩
      obtain ⟨v, hv, t⟩ := hc.get q c hq
      refine ⟨v, ?_, t.ext E⟩
      have hqlt := (List.getElem?_eq_some_iff.1 hq).1
      rw [List.getElem?_take, if_pos hqlt, List.getElem?_drop] at hv
      simp [World.cell?, ha, hv]
    · rw [bup_other e] at hm
      rw [List.getElem?_set_ne (fun h => e h.symm)] at hp
      obtain ⟨q1, q2, q3, q4, q5, q6⟩ := R.obj j p m hp hm
      have hblk : w'.heap[m.b]? = w.heap[m.b]? := hk m.b (R.loc j m hm) (fun he => by
        have := (R.inj i j l m hl hm (fun h => e h.symm) he.symm).1
        rw [g3, hro] at this
        cases this)
      refine ⟨q1, q2, q3, q4, fun q c hq => ?_, fun hr => ?_⟩
      · obtain ⟨v, hv, t⟩ := q5 q c hq
        exact ⟨v, (World.cell?_of_block (a := ⟨m.b, m.base + q, none⟩) hblk).trans hv, t.ext E⟩
      · obtain ⟨a, ha1, ha2⟩ := q6 hr
        exact ⟨a, hblk.trans ha1, ha2⟩
end upd

/-- A new object. -/
theorem Rel.push {β : BM} {H : AH} {w w1 : World} (R : Rel β H w) (hs : SameHeap w w1) (cells arr : List Value) (e : TypeId) (sz : Nat) (hc : All2 (T1 β) cells (arr.take cells.length)) :
    Rel (bup β H.length ⟨w.heap.size, 0, arr.length, sz, 0, false⟩) (H ++ [⟨cells, e, sz, 0, false⟩]) (w1.alloc (.cells arr.toArray e)) ∧
    Ext H.length β w (bup β H.length ⟨w.heap.size, 0, arr.length, sz, 0, false⟩) (w1.alloc (.cells arr.toArray e)) := by
  have hsz : w1.heap.size = w.heap.size := by rw [hs.heap]
  have hold : ∀ k, k < w.heap.size → (w1.alloc (.cells arr.toArray e)).heap[k]? = w.heap[k]? := fun k hk => by
    rw [heap_alloc_old w1 _ k (by omega), hs.heap]
  have hnew : (w1.alloc (.cells arr.toArray e)).heap[w.heap.size]? = some (.cells arr.toArray e) := by
    rw [← hsz]; exact heap_alloc_new w1 _
  have hn : β H.length = none := R.dom _ (Nat.le_refl _)
  have E : Ext H.length β w (bup β H.length ⟨w.heap.size, 0, arr.length, sz, 0, false⟩) (w1.alloc (.cells arr.toArray e)) := by
    refine ⟨hs.os, hs.tape, hs.output, by simp [hsz], fun b hb _ => hold b hb, fun i l hl => ⟨l, ?_, rfl, rfl, .inl rfl⟩, fun i hi h => ?_, fun i l hl => ?_⟩
    · rw [bup_other (fun e => by subst e; rw [hn] at hl; cases hl)]; exact hl
    · rw [bup_other (by omega)]; exact h
    · by_cases e : i = H.length
      · subst e
        rw [bup_same] at hl
        cases hl
        exact .inr (Nat.le_refl _)
      · rw [bup_other e] at hl; exact .inl ⟨l, hl, rfl, rfl⟩
  refine ⟨⟨fun j hj => ?_, fun j m hm => ?_, fun j k a b ha' hb' hne he => ?_, fun j p m hp hm => ?_⟩, E⟩
  · rw [List.length_append, List.length_singleton] at hj
    rw [bup_other (by omega)]
    exact R.dom j (by omega)
  · by_cases e : j = H.length
    · subst e; rw [bup_same] at hm; cases hm; simp [hsz]
    · rw [bup_other e] at hm; have := R.loc j m hm; simp [hsz]; omega
  · by_cases e : j = H.length
    · subst e
      rw [bup_same] at ha'
      cases ha'
      rw [bup_other (fun e => hne e.symm)] at hb'
      have := R.loc k b hb'
      simp at he
      omega
    · rw [bup_other e] at ha'
      by_cases e' : k = H.length
      · subst e'
        rw [bup_same] at hb'
        cases hb'
        have := R.loc j a ha'
        simp at he
        omega
      · rw [bup_other e'] at hb'
        exact R.inj j k a b ha' hb' hne he
  · by_cases e : j = H.length
    · subst e
      rw [bup_same] at hm
      cases hm
      rw [List.getElem?_append_right (Nat.le_refl _), Nat.sub_self] at hp
      simp only [List.getElem?_cons_zero, Option.some.injEq] at hp
      subst hp
      have hlen := hc.length
      rw [List.length_take] at hlen
      refine ⟨rfl, rfl, rfl, by simp; omega, fun q c hq => ?_, fun _ => ⟨arr.toArray, hnew, by simp⟩⟩
      obtain ⟨v, hv, t⟩ := hc.get q c hq
      have hqlt := (List.getElem?_eq_some_iff.1 hq).1
      rw [List.getElem?_take, if_pos hqlt] at hv
      exact ⟨v, by simp [World.cell?, hnew, hv], t.ext E⟩
    · rw [bup_other e] at hm
      have hj : j < H.length := by
        rcases Nat.lt_or_ge j H.length with h | h
        · exact h
        · rw [R.dom j h] at hm; cases hm
      rw [List.getElem?_append_left hj] at hp
      obtain ⟨q1, q2, q3, q4, q5, q6⟩ := R.obj j p m hp hm
      have hblk := hold m.b (R.loc j m hm)
      refine ⟨q1, q2, q3, q4, fun q c hq => ?_, fun hr => ?_⟩
      · obtain ⟨v, hv, t⟩ := q5 q c hq
        exact ⟨v, (World.cell?_of_block (a := ⟨m.b, m.base + q, none⟩) hblk).trans hv, t.ext E⟩
      · obtain ⟨a, ha1, ha2⟩ := q6 hr
        exact ⟨a, hblk.trans ha1, ha2⟩

end Go.Proofs.Ytbckijeffiofdaa.AL
