/- AL, part 7b: the copy builtin, elements of one cell. No condition. -/
import Derived.Test.YtbckijeffiofdaaAL7
namespace Go.Proofs.Ytbckijeffiofdaa.AL
open Go Go.RowKit
set_option linter.unusedVariables false
set_option linter.unusedSimpArgs false

def aCopy (P : Program) (H : AH) (t : TypeId) (d s : Value) : Option (Value × AH) := match elemT P t, d, s with
  | some e, .slice (some ⟨i, off, some g⟩) n _, .slice (some ⟨j, off2, some g2⟩) m _ => match alive H i g, alive H j g2, sizeT P e with
    | some o, some o2, some 1 => if Nat.min m n = 0 then some (.int .i64 0, H)
      else if o.ro = false ∧ off + Nat.min m n ≤ o.cells.length ∧ off2 + Nat.min m n ≤ o2.cells.length then
        some (.int .i64 (Nat.min m n : Nat), H.set i { o with cells := o.cells.take off ++ (o2.cells.drop off2).take (Nat.min m n) ++ o.cells.drop (off + Nat.min m n) })
      else none
    | _, _, _ => none
  | _, _, _ => none
section
variable {P : Program} {β : BM} {H : AH} {w : World}
/-- Cells put in the place of others, in the real heap too. -/
theorem put_cells (R : Rel β H w) {i off : Nat} {o : AO} {l : Loc} {arr : Array Value} {news news' : List Value} (ho : H[i]? = some o) (hl : β i = some l) (hro : o.ro = false) (harr : w.heap[l.b]? = some (.cells arr o.elem (0, 0))) (hfin : arr.size = l.fin)
    (hc : All2 (T1 β) news news') (hle : off + news.length ≤ o.cells.length) :
    Rel β (H.set i { o with cells := o.cells.take off ++ news ++ o.cells.drop (off + news.length) }) (w.setRow l.b (arr.toList.take (l.base + off) ++ news' ++ arr.toList.drop (l.base + off + news.length)).toArray) ∧
      Ext H.length β w β (w.setRow l.b (arr.toList.take (l.base + off) ++ news' ++ arr.toList.drop (l.base + off + news.length)).toArray) := by
  obtain ⟨g1, g2, g3, g4, g5, g6⟩ := R.obj _ _ _ ho hl
  have hn : news'.length = news.length := hc.length.symm
  have hold : All2 (T1 β) o.cells ((arr.toList.drop l.base).take o.cells.length) := by
    refine All2.of_get (by simp; omega) fun j c u hcj hu => ?_
    obtain ⟨u', hu', t⟩ := g5 j c hcj
    have hj := (List.getElem?_eq_some_iff.1 hcj).1
    rw [List.getElem?_take, if_pos hj, List.getElem?_drop] at hu
    simp [World.cell?, harr] at hu'
    simp at hu
    rw [hu'] at hu
    cases hu
    exact t
  have hal : arr.toList.length = l.fin := by simpa using hfin
  obtain ⟨R', E⟩ := R.upd (i := i) (o := o) (o' := { o with cells := o.cells.take off ++ news ++ o.cells.drop (off + news.length) }) (l := l) (l' := l)
    (w' := w.setRow l.b (arr.toList.take (l.base + off) ++ news' ++ arr.toList.drop (l.base + off + news.length)).toArray) ho hl hro rfl rfl rfl (by simp) (fun k _ hk => setRow_other w l.b k _ hk) (.inl rfl) (.inl rfl) rfl rfl hro g1 g2 (g3.trans hro)
    (arr.toList.take (l.base + off) ++ news' ++ arr.toList.drop (l.base + off + news.length)) (setRow_heap w l.b arr _ o.elem (0, 0) harr)
    (by simp only [List.length_append, List.length_take, List.length_drop, hn, hal]; omega)
    (by simp only [List.length_append, List.length_take, List.length_drop]; omega)
    (by
      have e1 : (arr.toList.take (l.base + off) ++ news' ++ arr.toList.drop (l.base + off + news.length)).drop l.base = (arr.toList.drop l.base).take off ++ news' ++ arr.toList.drop (l.base + off + news.length) := by
        rw [List.append_assoc, List.drop_append_of_le_length (by rw [List.length_take]; omega), List.drop_take, List.append_assoc]
        congr 2
        omega
      rw [e1]
      have e2 : (o.cells.take off ++ news ++ o.cells.drop (off + news.length)).length = o.cells.length := by
        simp only [List.length_append, List.length_take, List.length_drop]; omega
      have e3 : ((arr.toList.drop l.base).take off ++ news' ++ arr.toList.drop (l.base + off + news.length)).take o.cells.length = (arr.toList.drop l.base).take off ++ news' ++ (arr.toList.drop (l.base + off + news.length)).take (o.cells.length - (off + news.length)) := by
        rw [List.take_append]
        have hx : ((arr.toList.drop l.base).take off ++ news').length = off + news.length := by
          simp only [List.length_append, List.length_take, List.length_drop, hn, hal]; omega
        rw [hx, List.take_of_length_le (by rw [hx]; exact hle)]
      rw [e2, e3]
      refine (All2.append (All2.append ?_ hc) ?_)
      · have := hold.take off
        rw [List.take_take] at this
        rwa [Nat.min_eq_left (by omega)] at this
      · have := hold.drop (off + news.length)
        rw [List.drop_take, List.drop_drop] at this
        rwa [← Nat.add_assoc] at this)
  rw [bup_id hl] at R' E
  exact ⟨R', E⟩
theorem aCopy_sound (R : Rel β H w) {t t2 ty : TypeId} {d d' s s' v : Value} {H' : AH} (h : aCopy P H t d s = some (v, H')) (hd : T3 β d d') (hs : T3 β s s') :
    ∃ w' v', (Builtin.copy_ #[t, t2] ty #[d', s']).run P w = .ok v' w' ∧ Rel β H' w' ∧ Ext H.length β w β w' ∧ T3 β v v' := by
  unfold aCopy at h
  split at h
  case h_2 => cases h
  rename_i e i off g n c j off2 g2 m c2 he
  have hu := elemT_some he
  split at h
  case h_2 => cases h
  rename_i o o2 ha ha2 hsz
  obtain ⟨ho, hg⟩ := alive_some ha
  obtain ⟨ho2, hg2⟩ := alive_some ha2
  obtain ⟨l, a, c', hl, hlg, rfl, hn, _, hadr⟩ := hd.sl R ha
  obtain ⟨l2, a2, c2', hl2, hlg2, rfl, hn2, _, hadr2⟩ := hs.sl R ha2
  have hrs := run_sizeOf (w := w) hsz
  by_cases hk : Nat.min m n = 0
  · rw [if_pos hk] at h
    cases h
    refine ⟨w, .int .i64 0, ?_, R, .refl _ _ _, .one (.one (.one (.plain rfl)))⟩
    have hfc : (Builtin.firstCells 1 0 (.slice (some a2) m c2')).run P w = .ok #[] w := run_firstCells_some w 1 0 a2 m c2' [] (by simp) (fun j v hv => by simp at hv)
    simp [Builtin.copy_, run_underlying hu, lenOf_slice, hk, hrs, hfc, storeCells, goInt]
  · rw [if_neg hk] at h
    split at h
    case isFalse => cases h
    rename_i hfit
    obtain ⟨hro, h1, h2⟩ := hfit
    cases h
    obtain ⟨cs, k2, hc⟩ := R.reads ho2 hl2 off2 (Nat.min m n) h2
    have hkm : Nat.min m n ≤ m := Nat.min_le_left _ _
    have hkn : Nat.min m n ≤ n := Nat.min_le_right _ _
    generalize hk' : Nat.min m n = k at *
    have hlen : ((o2.cells.drop off2).take k).length = k := by simp; omega
    have hcl : cs.length = k := by rw [← k2.length]; exact hlen
    obtain ⟨rfl, _⟩ : a = ⟨l.b, l.base + off, none⟩ ∧ l.base + off + c' * l.sz ≤ l.fin := by
      rcases hadr with h0 | h
      · omega
      · exact h
    obtain ⟨rfl, _⟩ : a2 = ⟨l2.b, l2.base + off2, none⟩ ∧ l2.base + off2 + c2' * l2.sz ≤ l2.fin := by
      rcases hadr2 with h0 | h
      · omega
      · exact h
    obtain ⟨g1, g2', g3, g4, g5, g6⟩ := R.obj _ _ _ ho hl
    obtain ⟨arr, harr, hfin⟩ := g6 hro
    have hfc : (Builtin.firstCells 1 k (.slice (some ⟨l2.b, l2.base + off2, none⟩) m c2')).run P w = .ok cs.toArray w := run_firstCells_some w 1 k _ m c2' cs (by omega) hc
    have hone : ∀ u ∈ cs, u.oneCell' = true := fun u hu => by
      obtain ⟨x, _, t⟩ := k2.mem hu
      exact t.oneCell
    have hst := run_storeCells_at P l.b (l.base + off) o.elem cs 0 arr w harr (by rw [hcl, hfin]; omega) hone
    rw [Nat.add_zero, hcl] at hst
    obtain ⟨R', E⟩ := put_cells R (off := off) ho hl hro harr hfin k2 (by rw [hlen]; exact h1)
    rw [hlen] at R' E
    refine ⟨_, .int .i64 (k : Nat), ?_, R', E, .one (.one (.one (.plain rfl)))⟩
    simp [Builtin.copy_, run_underlying hu, lenOf_slice, hk', hrs, hfc, hst, goInt]
end
end Go.Proofs.Ytbckijeffiofdaa.AL
