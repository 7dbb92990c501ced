/- AL, part 46: a map that one function makes and hands on (keys and elements whole numbers, each entry right): looked up and written. No condition. -/
import Derived.Test.YtjgnpkedkjbmcaaALB
import Derived.MapKept
import Derived.WideMake
namespace Go.Proofs.Ytjgnpkedkjbmcaa.AL
open Go Go.RowKit
set_option linter.unusedVariables false
set_option linter.unusedSimpArgs false

def MapOK (b : Nat) (V : Int → Int) (w : World) : Prop := ∃ es clock, w.heap[b]? = some (.map es clock) ∧ ∀ e ∈ es.toList, ∃ k, e.key = .int .i64 k ∧ e.val = .int .i64 (V k)
def Shun (b : Nat) (β : BM) : Prop := ∀ i l, β i = some l → l.b ≠ b
structure ExtM (b N : Nat) (β : BM) (w : World) (β' : BM) (w' : World) : Prop where
  os : w'.os = w.os
  tape : w'.tape = w.tape
  output : w'.output = w.output
  size : w.heap.size ≤ w'.heap.size
  keep : ∀ c, c < w.heap.size → c ≠ b → (∀ i l, β i = some l → l.b = c → l.ro = true) → w'.heap[c]? = w.heap[c]?
  mono : ∀ i l, β i = some l → ∃ l', β' i = some l' ∧ l'.sz = l.sz ∧ l'.ro = l.ro ∧ (l' = l ∨ l.gen < l'.gen)
  hole : ∀ i, i < N → β i = none → β' i = none
  fresh : ∀ i l', β' i = some l' → (∃ l, β i = some l ∧ l.b = l'.b ∧ l.ro = l'.ro) ∨ w.heap.size ≤ l'.b
section
variable {b N N' : Nat} {V : Int → Int} {β β' β'' : BM} {w w' w'' : World}
theorem Ext.toM (h : Ext N β w β' w') : ExtM b N β w β' w' := ⟨h.os, h.tape, h.output, h.size, fun c hc _ => h.keep c hc, h.mono, h.hole, h.fresh⟩
theorem ExtM.refl (N : Nat) (β : BM) (w : World) : ExtM b N β w β w := (Ext.refl N β w).toM
theorem ExtM.trans (h : ExtM b N β w β' w') (k : ExtM b N' β' w' β'' w'') (hN : N ≤ N') : ExtM b N β w β'' w'' where
  os := k.os.trans h.os
  tape := k.tape.trans h.tape
  output := k.output.trans h.output
  size := Nat.le_trans h.size k.size
  keep := fun c hb hc hr => by
    rw [k.keep c (Nat.lt_of_lt_of_le hb h.size) hc ?_, h.keep c hb hc hr]
    intro i l' hl he
    rcases h.fresh i l' hl with ⟨l, hl0, e1, e2⟩ | hge
    · rw [← e2]; exact hr i l hl0 (e1.trans he)
    · omega
  mono := fun i l hl => by
    obtain ⟨l', h1, h2, h3, h4⟩ := h.mono i l hl
    obtain ⟨l'', k1, k2, k3, k4⟩ := k.mono i l' h1
    refine ⟨l'', k1, k2.trans h2, k3.trans h3, ?_⟩
    rcases h4 with rfl | h4
    · exact k4
    · rcases k4 with rfl | k4
      · exact .inr h4
      · exact .inr (Nat.lt_trans h4 k4)
  hole := fun i hi hn => k.hole i (Nat.lt_of_lt_of_le hi hN) (h.hole i hi hn)
  fresh := fun i l'' hl => by
    rcases k.fresh i l'' hl with ⟨l', hl', e1, e2⟩ | hge
    · rcases h.fresh i l' hl' with ⟨l, hl0, e3, e4⟩ | hge
      · exact .inl ⟨l, hl0, e3.trans e1, e4.trans e2⟩
      · exact .inr (by omega)
    · exact .inr (Nat.le_trans h.size hge)
theorem MapOK.lt (h : MapOK b V w) : b < w.heap.size := by
  obtain ⟨es, clock, hb, _⟩ := h
  exact (Array.getElem?_eq_some_iff.1 hb).1
theorem MapOK.ext (h : MapOK b V w) (hs : Shun b β) (E : Ext N β w β' w') : MapOK b V w' := by
  obtain ⟨es, clock, hb, he⟩ := h
  exact ⟨es, clock, (E.keep b (Array.getElem?_eq_some_iff.1 hb).1 fun i l hl e => absurd e (hs i l hl)).trans hb, he⟩
theorem Shun.ext (h : Shun b β) (hb : b < w.heap.size) (E : Ext N β w β' w') : Shun b β' := fun i l' hl => by
  rcases E.fresh i l' hl with ⟨l, h1, h2, _⟩ | h1
  · rw [← h2]; exact h i l h1
  · omega
variable {P : Program} {t kt et : TypeId} {kk : IntKind} {k v : Int} {d : TypeDesc}
theorem look_run {n1 : Bool} (hm : P.underlying t = some (.map kt et)) (hk : P.underlying kt = some (.int .i64)) (hz : (zeroValue et).run P w = .ok (.int .i64 0) w) (h : MapOK b V w) :
    (Instr.lookup t (.map (some b)) (.int .i64 k) true).run P w = .ok (.tuple #[.int .i64 (V k), .bool true]) w ∨ (Instr.lookup t (.map (some b)) (.int .i64 k) true).run P w = .ok (.tuple #[.int .i64 0, .bool false]) w := by
  obtain ⟨es, clock, hb, he⟩ := h
  have hkey : MapKept.IsKey (.int .i64) (.int .i64 k) := by simp [MapKept.IsKey]
  rcases MapKept.findNow_spec hkey es.toList 0 (fun x hx => by
    obtain ⟨k', e1, _⟩ := he x hx
    rw [e1]
    simp [MapKept.IsKey]) with ⟨h1, h2⟩ | ⟨j, e, h1, h2, h3⟩
  · right
    simp [Instr.lookup, run_underlying hm, MapKept.run_getObj_map hb, MapKept.run_checkKey hk hkey, MapKept.run_findKey hk h1, hz, Result.andThen]
  · left
    obtain ⟨k', e1, e2⟩ := he e (List.mem_of_getElem? h2)
    rw [h3] at e1
    cases e1
    rw [e2] at h1
    simp [Instr.lookup, run_underlying hm, MapKept.run_getObj_map hb, MapKept.run_checkKey hk hkey, MapKept.run_findKey hk h1, Result.andThen]
theorem put_run (hm : P.underlying t = some (.map kt et)) (hk : P.underlying kt = some (.int .i64)) (h : MapOK b V w) :
    ∃ o, (Instr.mapUpdate t (.map (some b)) (.int .i64 k) (.int .i64 (V k))).run P w = .ok () { w with heap := w.heap.setIfInBounds b o } ∧ MapOK b V { w with heap := w.heap.setIfInBounds b o } := by
  obtain ⟨es, clock, hb, he⟩ := h
  have hkey : MapKept.IsKey (.int .i64) (.int .i64 k) := by simp [MapKept.IsKey]
  rcases MapKept.findNow_spec hkey es.toList 0 (fun x hx => by
    obtain ⟨k', e1, _⟩ := he x hx
    rw [e1]
    simp [MapKept.IsKey]) with ⟨h1, h2⟩ | ⟨j, e, h1, h2, h3⟩
  · refine ⟨_, by simp [Instr.mapUpdate, run_underlying hm, MapKept.run_getObj_map hb, MapKept.run_checkKey hk hkey, MapKept.run_findKey hk h1, MapKept.run_setObj_map _ hb, Result.andThen]; rfl, _, _, (MapKept.heap_set hb).1, fun x hx => ?_⟩
    simp only [Array.toList_push, List.mem_append, List.mem_singleton] at hx
    rcases hx with hx | rfl
    · exact he x hx
    · exact ⟨k, rfl, rfl⟩
  · have hj : es[j]? = some e := by simpa using h2
    refine ⟨_, by simp [Instr.mapUpdate, run_underlying hm, MapKept.run_getObj_map hb, MapKept.run_checkKey hk hkey, MapKept.run_findKey hk h1, hj, h3, MapKept.run_keyThatStays hkey, MapKept.run_setObj_map _ hb, Result.andThen]; rfl, _, _, (MapKept.heap_set hb).1, fun x hx => ?_⟩
    obtain ⟨i, hi, rfl⟩ := List.mem_iff_getElem.1 hx
    simp only [Array.toList_modify, List.getElem_modify] at hx ⊢
    split
    · exact ⟨k, rfl, rfl⟩
    · exact he _ (List.getElem_mem _)
end
end Go.Proofs.Ytjgnpkedkjbmcaa.AL
