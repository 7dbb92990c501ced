/- AL, part 48: strings.Join, met by the library's contract. No condition. -/
import Derived.Test.YtcbdgkgdopkofaaDoorALD
import Derived.Shelf.Strings.OnBuilder
namespace Go.Proofs.YtcbdgkgdopkofaaDoor.AL
open Go Go.RowKit Go.Shelf
set_option linter.unusedVariables false
set_option linter.unusedSimpArgs false

def joinS (xs : List ByteArray) (sep : ByteArray) : ByteArray := ⟨(Lib.join (xs.map (·.data.toList)) sep.data.toList).toArray⟩
theorem Rel.below {β : BM} {H : AH} {w w' : World} (R : Rel β H w) (b : Below w.heap.size w w') : Rel β H w' where
  dom := R.dom
  loc := fun i l h => Nat.lt_of_lt_of_le (R.loc i l h) b.size
  inj := R.inj
  obj := fun i o l ho hl => by
    obtain ⟨g1, g2, g3, g4, g5, g6⟩ := R.obj i o l ho hl
    refine ⟨g1, g2, g3, g4, fun j c hc => ?_, fun hr => ?_⟩
    · obtain ⟨v, e1, e2⟩ := g5 j c hc
      exact ⟨v, (b.cell (p := ⟨l.b, l.base + j, none⟩) (R.loc i l hl)).trans e1, e2⟩
    · obtain ⟨arr, e1, e2⟩ := g6 hr
      exact ⟨arr, (b.block l.b (R.loc i l hl)).trans e1, e2⟩
theorem Ext.below {N : Nat} {β : BM} {w w' : World} (b : Below w.heap.size w w') : Ext N β w β w' :=
  ⟨b.os, b.tape, b.output, b.size, fun k hk _ => b.block k hk, fun i l h => ⟨l, h, rfl, rfl, .inl rfl⟩, fun _ _ h => h, fun i l h => .inl ⟨l, h, rfl, rfl⟩⟩
theorem ACall.lib {P : Program} {f : FuncId} {args : List Value} {H : AH} {v : Value} (hE : Enters P f) (hp : plainV v = true)
    (h : ∀ β w args', Rel β H w → WF H → All2 (T2 β) args args'.toList → Calls P f args' w fun e w' => e = .returned v ∧ Below w.heap.size w w') : ACall P f args H v H where
  enters := hE
  good := fun hw _ => Good.plain hw hp
  calls := fun β w args' R hw hr ha => (h β w args' R hw ha).mono fun e w' ⟨he, hb⟩ => ⟨v, β, he, R.below hb, Ext.below hb, .one (.one (.one (.plain hp)))⟩
theorem join_row {P : Program} {ρ : Ren} (Ly : Lays.n156 P ρ) (X : Builder.Extra P ρ) (hE : Enters P (ρ.f 156)) {H : AH} {u : Value} {xs : List ByteArray} {sep : ByteArray}
    (hx : Sl H u (strs xs)) (hN : xs.length ≤ 140737488355328) (hlen : (Lib.join (xs.map (·.data.toList)) sep.data.toList).length ≤ 140737488355328) :
    ACall P (ρ.f 156) [u, .string sep] H (.string (joinS xs sep)) H := by
  refine ACall.lib hE rfl fun β w args' R hw ha => ?_
  obtain ⟨args'⟩ := args'
  rcases ha with _ | ⟨t, ha⟩
  rcases ha with _ | ⟨t2, ha⟩
  rcases ha with _ | _
  have := T3.of_plain rfl (.one t2)
  subst this
  rcases hx with ⟨rfl, he⟩ | ⟨i, off, g, c, o, rfl, h1, h2, h3, h4⟩
  · have := T3.of_plain rfl (.one t)
    subst this
    have : xs = [] := by simpa [strs] using he
    subst this
    refine (Any.strings_Join_none Ly X none 0 sep w).mono fun e w' ⟨he, hw⟩ => ⟨he, hw ▸ Below.refl _ _⟩
  · obtain ⟨l, a, c', hl, hgen, rfl, hn, hcc, ha⟩ := T3.sl R (.one t) h1
    obtain ⟨a1, a2⟩ := alive_some h1
    have hlx : (strs xs).length = xs.length := by simp [strs]
    rw [hlx] at hn h2 h3 ⊢
    obtain ⟨g1, g2, g3, g4, g5, g6⟩ := R.obj i o l a1 hl
    rcases ha with rfl | ⟨rfl, hfin⟩
    · have : xs = [] := List.length_eq_zero_iff.1 (by omega)
      subst this
      exact (Any.strings_Join_none Ly X (some a) 0 sep w).mono fun e w' ⟨he, hw⟩ => ⟨he, hw ▸ Below.refl _ _⟩
    · refine Any.strings_Join Ly X l.b (l.base + off) c' xs sep w (fun j x hj => ?_) (R.loc i l hl) hN hn hlen
      have hjl : j < xs.length := (List.getElem?_eq_some_iff.1 hj).1
      have hc : o.cells[off + j]? = some (.string x) := by
        have h5 : ((o.cells.drop off).take xs.length)[j]? = (strs xs)[j]? := by rw [h2]
        rw [List.getElem?_take_of_lt hjl, List.getElem?_drop] at h5
        rw [h5]
        simp [strs, hj]
      obtain ⟨v, e1, e2⟩ := g5 (off + j) _ hc
      have := T1.of_plain rfl e2
      subst this
      rw [← e1, Nat.add_assoc]
theorem join_w {P : Program} {ρ : Ren} (Ly : Lays.n156 P ρ) (X : Builder.Extra P ρ) (hE : Enters P (ρ.f 156)) {H : AH} {u : Value} {xs : List ByteArray} {sep : ByteArray}
    (hx : Sl H u (strs xs)) (hN : xs.length ≤ 140737488355328) (hlen : (Lib.join (xs.map (·.data.toList)) sep.data.toList).length ≤ 140737488355328) :
    ACallT P (ρ.f 156) [u, .string sep] H (fun v G => AgB (Fr H) H G ∧ v = .string (joinS xs sep) ∧ Sep G (Fr H) []) :=
  ⟨_, _, join_row Ly X hE hx hN hlen, AgB.refl _ _, rfl, Sep.nil⟩
end Go.Proofs.YtcbdgkgdopkofaaDoor.AL
