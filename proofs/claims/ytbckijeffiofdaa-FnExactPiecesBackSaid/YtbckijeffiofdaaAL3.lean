/- AL, part 3: what makes objects: alloc, box, literals, make, append, copy; slices and addresses. No condition. -/
import Derived.Test.YtbckijeffiofdaaAL2
import Derived.Great.BuildSlice
namespace Go.Proofs.Ytbckijeffiofdaa.AL
open Go Go.RowKit
set_option linter.unusedVariables false
set_option linter.unusedSimpArgs false

/-! ### Parts set into cells -/
def fillL (place : Nat → Option (Nat × Nat)) : List Value → List (Nat × Value) → Option (List Value)
  | cells, [] => some cells
  | cells, (i, v) :: rest => match place i with
    | none => none
    | some (off, size) => if v.cells.size = size ∧ off + size ≤ cells.length then fillL place (cells.take off ++ v.cells.toList ++ cells.drop (off + size)) rest else none
theorem splice_eq (off : Nat) (v : Array Value) (cs : Array Value) (h : off + v.size ≤ cs.size) :
    v.zipIdx.foldl (fun cs (x : Value × Nat) => cs.setIfInBounds (off + x.2) x.1) cs = (cs.toList.take off ++ v.toList ++ cs.toList.drop (off + v.size)).toArray := by
  obtain ⟨h1, h2⟩ := Great.foldl_set off v.toList 0 cs
  rw [← Array.foldl_toList, Array.toList_zipIdx]
  apply Array.ext'
  apply List.ext_getElem?
  intro k
  rw [Array.getElem?_toList, h2 k]
  simp only [Nat.add_zero, Array.length_toList, List.toList_toArray]
  by_cases hk : off ≤ k ∧ k < off + v.size ∧ k < cs.size
  · rw [if_pos hk, List.getElem?_append_left (by simp; omega), List.getElem?_append_right (by simp; omega)]
    congr 1
    simp
    omega
  · rw [if_neg hk]
    by_cases h3 : k < off
    · rw [List.getElem?_append_left (by simp; omega), List.getElem?_append_left (by simp; omega), List.getElem?_take, if_pos h3, Array.getElem?_toList]
    · by_cases h4 : k < cs.size
      · rw [List.getElem?_append_right (by simp; omega), List.getElem?_drop, Array.getElem?_toList]
        congr 1
        simp
        omega
      · rw [Array.getElem?_eq_none (by omega), List.getElem?_eq_none (by simp; omega)]
theorem fill_sound {β : BM} {place : Nat → Option (Nat × Nat)} : ∀ {parts parts' : List (Nat × Value)} {cells cells' r : List Value}, All2 (fun p q => p.1 = q.1 ∧ T2 β p.2 q.2) parts parts' → All2 (T1 β) cells cells' →
    fillL place cells parts = some r → ∃ r', Instr.fill place cells'.toArray parts' = some r'.toArray ∧ All2 (T1 β) r r'
  | _, _, cells, cells', r, .nil, hc, h => by
    cases h
    exact ⟨cells', rfl, hc⟩
  | _, _, cells, cells', r, .cons (a := (i, v)) (b := (i', v')) ⟨e, t⟩ hp, hc, h => by
    simp only at e t
    subst e
    simp only [fillL] at h
    unfold Instr.fill
    cases hpl : place i with
    | none => simp [hpl] at h
    | some os =>
      obtain ⟨off, size⟩ := os
      simp only [hpl] at h ⊢
      split at h
      · rename_i hs
        have hvc := t.cells
        have hvs : v'.cells.size = size := by
          have := hvc.length
          simp at this
          omega
        have hl := hc.length
        rw [if_neg (by simp [hvs]; omega)]
        have key := fill_sound (place := place) (cells := cells.take off ++ v.cells.toList ++ cells.drop (off + size)) (cells' := cells'.take off ++ v'.cells.toList ++ cells'.drop (off + size)) hp
          (All2.append (All2.append (hc.take _) hvc) (hc.drop _)) h
        obtain ⟨r', h1, h2⟩ := key
        refine ⟨r', ?_, h2⟩
        rw [← h1]
        congr 1
        have := splice_eq off v'.cells cells'.toArray (by simp; omega)
        rw [hvs] at this
        simpa using this
      · cases h
def placeT (P : Program) (t : TypeId) : Option (Value × (Nat → Option (Nat × Nat))) :=
  match P.info? t, P.underlying t with
  | some it, some (.array _ e) => match it.zero, P.info? e with
    | some z, some ie => some (z, fun i => some (i * ie.size, ie.size))
    | _, _ => none
  | some it, some (.struct fields) => match it.zero, fields.toList.mapM (fun f => (P.info? f.type).map fun i => (f.offset, i.size)) with
    | some z, some places => some (z, fun i => places.toArray[i]?)
    | _, _ => none
  | _, _ => none
theorem built_of {P : Program} {t : TypeId} {z : Value} {pl : Nat → Option (Nat × Nat)} (h : placeT P t = some (z, pl)) (parts : List (Nat × Value)) : P.built t parts = Instr.fill pl z.cells parts := by
  unfold placeT at h
  unfold Program.built
  split at h
  · rename_i it n e h1 h2
    simp only [h1, h2]
    split at h
    · rename_i z' ie h3 h4
      simp only [h3, h4]
      simp only [Option.some.injEq, Prod.mk.injEq] at h
      obtain ⟨rfl, rfl⟩ := h
      rfl
    · cases h
  · rename_i it fs h1 h2
    simp only [h1, h2]
    split at h
    · rename_i z' places h3 h4
      simp only [h3, h4]
      simp only [Option.some.injEq, Prod.mk.injEq] at h
      obtain ⟨rfl, rfl⟩ := h
      rfl
    · cases h
  · cases h
theorem constV_cells {β : BM} {z : Value} (h : constV z = true) : All2 (T1 β) z.cells.toList z.cells.toList := ((T3.const h).two (by cases z <;> first | rfl | simp [constV, plainV] at h)).cells
def noTup (l : List (Nat × Value)) : Bool := l.all fun p => !isTup p.2
def aBuild (P : Program) (t : TypeId) (parts : List (Nat × Value)) : Option Value := match placeT P t with
  | some (z, pl) => if constV z = true ∧ noTup parts = true then (fillL pl z.cells.toList parts).map fun r => .agg r.toArray else none
  | none => none
theorem parts_two {β : BM} {parts parts' : List (Nat × Value)} (h : All2 (fun p q => p.1 = q.1 ∧ T3 β p.2 q.2) parts parts') (hn : noTup parts = true) : All2 (fun p q => p.1 = q.1 ∧ T2 β p.2 q.2) parts parts' := by
  induction h with
  | nil => exact .nil
  | cons hr _ ih =>
    simp only [noTup, List.all_cons, Bool.and_eq_true] at hn
    exact .cons ⟨hr.1, hr.2.two (by simpa using hn.1)⟩ (ih hn.2)
theorem aBuild_sound {P : Program} {β : BM} {w : World} {t : TypeId} {parts parts' : List (Nat × Value)} {v : Value} (h : aBuild P t parts = some v) (hp : All2 (fun p q => p.1 = q.1 ∧ T3 β p.2 q.2) parts parts') :
    ∃ v', (Instr.build t parts'.toArray).run P w = .ok v' w ∧ T2 β v v' := by
  unfold aBuild at h
  split at h
  · rename_i z pl hpl
    split at h
    · rename_i hz
      obtain ⟨r, hr, rfl⟩ := Option.map_eq_some_iff.1 h
      obtain ⟨r', h1, h2⟩ := fill_sound (parts_two hp hz.2) (constV_cells hz.1) hr
      refine ⟨.agg r'.toArray, run_build w t _ _ ?_, .agg h2⟩
      rw [List.toList_toArray, built_of hpl]
      simpa using h1
    · cases h
  · cases h

/-! ### New objects -/
section new
variable {P : Program} {β : BM} {H : AH} {w w1 : World}
theorem push_sound (R : Rel β H w) (hs : SameHeap w w1) (cells arr : List Value) (e : TypeId) (sz : Nat) (hc : All2 (T1 β) cells (arr.take cells.length)) :
    ∃ β', Rel β' (aNew H cells e sz) (w1.alloc (.cells arr.toArray e)) ∧ Ext H.length β w β' (w1.alloc (.cells arr.toArray e)) ∧ β' H.length = some ⟨w.heap.size, 0, arr.length, sz, 0, false⟩ := by
  obtain ⟨R', E⟩ := R.push hs cells arr e sz hc
  exact ⟨_, R', E, bup_same _ _ _⟩
theorem new_ptr {n m : Nat} {l : Loc} (h : β n = some l) (hg : l.gen = 0) (hb : l.b = m) (hbase : l.base = 0) : T3 β (ptrAt n 0 0) (.pointer (some ⟨m, 0, none⟩)) := by
  have := T0.ptr (off := 0) h hg
  rw [hb, hbase] at this
  exact .one (.one (.one this))
theorem new_sl {n m k c c' : Nat} {l : Loc} (h : β n = some l) (hg : l.gen = 0) (hb : l.b = m) (hbase : l.base = 0) (hk : k ≤ c') (hc : c = k → c' = k) (hf : c' * l.sz ≤ l.fin) : T3 β (.slice (some ⟨n, 0, some 0⟩) k c) (.slice (some ⟨m, 0, none⟩) k c') := by
  refine .one (.one (.one (.sl h hg hk hc (.inr ⟨?_, ?_⟩))))
  · rw [hb, hbase]
  · rw [hbase]; simpa using hf
/-- A new variable that holds v. -/
theorem box_sound (R : Rel β H w) {t : TypeId} {v v' : Value} (hv : T2 β v v') :
    ∃ β' w', (Instr.box t v').run P w = .ok (.pointer (some ⟨w.heap.size, 0, none⟩)) w' ∧ Rel β' (aNew H v.cells.toList t 1) w' ∧ Ext H.length β w β' w' ∧ T3 β' (ptrAt H.length 0 0) (.pointer (some ⟨w.heap.size, 0, none⟩)) := by
  have hl := hv.cells.length
  obtain ⟨β', R', E, hn⟩ := push_sound (w1 := w) R ⟨rfl, rfl, rfl, rfl⟩ v.cells.toList v'.cells.toList t 1 (by rw [List.take_of_length_le (by omega)]; exact hv.cells)
  refine ⟨β', _, ?_, R', E, new_ptr hn rfl rfl rfl⟩
  simp [Instr.box, newVar, newRow]
def aAlloc (P : Program) (H : AH) (t : TypeId) : Option AH := match zeroT P t with
  | some z => if constV z = true then some (aNew H z.cells.toList t 1) else none
  | none => none
theorem aAlloc_sound (R : Rel β H w) {t : TypeId} {H' : AH} (h : aAlloc P H t = some H') :
    ∃ β' w', (Instr.alloc t true (.tuple #[])).run P w = .ok (.pointer (some ⟨w.heap.size, 0, none⟩)) w' ∧ Rel β' H' w' ∧ Ext H.length β w β' w' ∧ T3 β' (ptrAt H.length 0 0) (.pointer (some ⟨w.heap.size, 0, none⟩)) := by
  unfold aAlloc at h
  split at h
  · rename_i z hz
    split at h
    · rename_i hc
      cases h
      obtain ⟨β', w', h1, h2⟩ := box_sound (P := P) (t := t) R ((T3.const (β := β) hc).two (by cases z <;> first | rfl | simp [constV, plainV] at hc))
      refine ⟨β', w', ?_, h2⟩
      rw [← h1]
      unfold zeroT at hz
      cases hi : P.info? t with
      | none => simp [hi] at hz
      | some i =>
        simp [hi] at hz
        simp [Instr.alloc, Instr.box, zeroValue, typeInfo, hi, hz]
    · cases h
  · cases h
end new

/-! ### Slices: literals, make, append, copy -/
def elemT (P : Program) (t : TypeId) : Option TypeId := match P.underlying t with
  | some (.slice e) => some e
  | _ => none
theorem elemT_some {P : Program} {t e : TypeId} (h : elemT P t = some e) : P.underlying t = some (.slice e) := by
  unfold elemT at h
  split at h
  · cases h; assumption
  · cases h
structure EInfo where
  size : Nat
  bytes : Nat
  zero : Value
def einfo (P : Program) (e : TypeId) : Option EInfo := match P.info? e with
  | some i => match i.zero with
    | some z => if z.cells.size = i.size ∧ 0 < i.size ∧ constV z = true ∧ i.bytes ≤ 16384 then some ⟨i.size, i.bytes, z⟩ else none
    | none => none
  | none => none
theorem einfo_some {P : Program} {e : TypeId} {q : EInfo} (h : einfo P e = some q) : ∃ i, P.info? e = some i ∧ i.zero = some q.zero ∧ i.size = q.size ∧ i.bytes = q.bytes ∧ q.zero.cells.size = q.size ∧ 0 < q.size ∧ constV q.zero = true ∧ q.bytes ≤ 16384 := by
  unfold einfo at h
  split at h
  · rename_i i hi
    split at h
    · rename_i z hz
      split at h
      · rename_i hc
        cases h
        exact ⟨i, hi, hz, rfl, rfl, hc.1, hc.2.1, hc.2.2.1, hc.2.2.2⟩
      · cases h
    · cases h
  · cases h
def LIM : Nat := 4294967296
def zeros (q : EInfo) (n : Nat) : List Value := (List.range n).map fun i => q.zero.cells[i % q.zero.cells.size]!
theorem zeros_rel {β : BM} {q : EInfo} (h : constV q.zero = true) (hp : 0 < q.zero.cells.size) (n : Nat) : All2 (T1 β) (zeros q n) (zeros q n) := by
  refine All2.same fun a ha => ?_
  obtain ⟨i, _, rfl⟩ := List.mem_map.1 ha
  have hc := constV_cells (β := β) h
  have hlt : i % q.zero.cells.size < q.zero.cells.size := Nat.mod_lt _ hp
  obtain ⟨b, hb, t⟩ := hc.get (i % q.zero.cells.size) (q.zero.cells[i % q.zero.cells.size]) (by simp [hlt])
  simp [hlt] at hb
  rw [show q.zero.cells[i % q.zero.cells.size]! = q.zero.cells[i % q.zero.cells.size] from getElem!_pos q.zero.cells _ hlt]
  rw [← hb] at t
  exact t
def aBuildSlice (P : Program) (H : AH) (t : TypeId) (len : Nat) (parts : List (Nat × Value)) : Option (Value × AH) := match elemT P t with
  | some e => match einfo P e with
    | some q => if len * q.size ≤ 16777216 ∧ noTup parts = true then (fillL (fun i => some (i * q.size, q.size)) (zeros q (len * q.size)) parts).map fun r => (.slice (some ⟨H.length, 0, some 0⟩) len len, aNew H r e q.size) else none
    | none => none
  | none => none

section lit
variable {P : Program} {β : BM} {H : AH} {w w1 : World}
theorem fillL_length {place : Nat → Option (Nat × Nat)} : ∀ {parts : List (Nat × Value)} {cells r : List Value}, fillL place cells parts = some r → r.length = cells.length
  | [], _, _, h => by cases h; rfl
  | (i, v) :: rest, cells, r, h => by
    simp only [fillL] at h
    split at h
    · cases h
    · split at h
      · rename_i hs
        rw [fillL_length h]
        have : v.cells.toList.length = v.cells.size := by simp
        simp only [List.length_append, List.length_take, List.length_drop, this]
        omega
      · cases h
theorem aBuildSlice_sound (R : Rel β H w) {t : TypeId} {len : Nat} {parts parts' : List (Nat × Value)} {v : Value} {H' : AH} (h : aBuildSlice P H t len parts = some (v, H'))
    (hp : All2 (fun p q => p.1 = q.1 ∧ T3 β p.2 q.2) parts parts') :
    ∃ β' w' v', (Instr.buildSlice t len parts'.toArray).run P w = .ok v' w' ∧ Rel β' H' w' ∧ Ext H.length β w β' w' ∧ T3 β' v v' := by
  unfold aBuildSlice at h
  split at h
  · rename_i e he
    have hu := elemT_some he
    split at h
    · rename_i q hq
      obtain ⟨i, hi, hz, hsz, hby, hzs, hpos, hcz, hb⟩ := einfo_some hq
      split at h
      · rename_i hc
        obtain ⟨r, hr, hv⟩ := Option.map_eq_some_iff.1 h
        cases hv
        obtain ⟨r', h1, h2⟩ := fill_sound (parts_two hp hc.2) (zeros_rel (β := β) hcz (by omega) _) hr
        have hl := h2.length
        obtain ⟨β', R', E, hn⟩ := push_sound (w1 := w) R ⟨rfl, rfl, rfl, rfl⟩ r r' e q.size (by rw [List.take_of_length_le (by omega)]; exact h2)
        have hrl : r'.length = len * q.size := by
          rw [← hl, fillL_length hr]
          simp [zeros]
        refine ⟨β', _, .slice (some ⟨w.heap.size, 0, none⟩) len len, ?_, R', E, new_sl hn rfl rfl rfl (Nat.le_refl _) (fun _ => rfl) (by show len * q.size ≤ r'.length; omega)⟩
        by_cases h0 : len * q.size = 0
        · have hz0 : zeros q (len * q.size) = [] := by rw [h0]; rfl
          rw [hz0] at h1
          have hsm : ¬ (16777216 < len * i.size) := by rw [hsz]; omega
          have h0' : len * i.size = 0 := by rw [hsz]; exact h0
          have hl0 : len = 0 := by
            rcases Nat.mul_eq_zero.1 h0 with h | h
            · exact h
            · omega
          subst hl0
          rw [← hsz] at h1
          have e0 : Array.map (fun x : Nat => (default : Value)) (Array.range 0) = (#[] : Array Value) := by simp
          simp [Instr.buildSlice, run_underlying hu, sizeOf, typeInfo, zeroValue, hi, hz, newRow]
          rw [e0, h1]
          simp
        · refine run_buildSlice w t e len parts'.toArray r'.toArray i q.zero hu hi hz (by rw [hsz]; omega) (by rw [hsz]; exact h0) ?_
          rw [hsz, List.toList_toArray]
          rw [← h1]
          congr 1
          apply Array.ext'
          simp [zeros]
      · cases h
    · cases h
  · cases h
end lit

end Go.Proofs.Ytbckijeffiofdaa.AL
