/- AL, part 32: slices.Sort at []int, met by the library's contract. No condition. -/
import Derived.Test.YtigpmjebldgekaaALC
import Derived.Shelf.Sort.Plain
namespace Go.Proofs.Ytigpmjebldgekaa.AL
open Go Go.RowKit Go.Shelf Go.Sort
attribute [local simp] aBin' aBin aBinI aUn aNil flatV
set_option linter.unusedVariables false
set_option linter.unusedSimpArgs false

def srt (xs : List Int) : List Int := xs.mergeSort fun x y => decide (x ≤ y)
theorem srt_len (xs : List Int) : (srt xs).length = xs.length := List.length_mergeSort ..
def putO (o : AO) (off : Nat) (xs : List Int) : AO := { o with cells := o.cells.take off ++ ints xs ++ o.cells.drop (off + xs.length) }
theorem putO_len {o : AO} {off : Nat} {xs : List Int} (h : off + xs.length ≤ o.cells.length) : (putO o off xs).cells.length = o.cells.length := by
  simp [putO]; omega
theorem putO_get {o : AO} {off : Nat} {xs : List Int} (h : off + xs.length ≤ o.cells.length) (j : Nat) :
    (putO o off xs).cells[j]? = if off ≤ j ∧ j < off + xs.length then (ints xs)[j - off]? else o.cells[j]? := by
  unfold putO
  simp only
  by_cases h1 : j < off
  · rw [if_neg (by omega), List.append_assoc, List.getElem?_append_left (by simp; omega), List.getElem?_take_of_lt h1]
  · by_cases h2 : j < off + xs.length
    · rw [if_pos ⟨by omega, h2⟩, List.append_assoc, List.getElem?_append_right (by simp; omega), List.getElem?_append_left (by simp; omega)]
      congr 1
      simp; omega
    · rw [if_neg (by omega), List.getElem?_append_right (by simp; omega), List.getElem?_drop]
      congr 1
      simp; omega
theorem sort_row {P : Program} {ρ : Ren} (Ly : Lays.n189 P ρ) (hE : Enters P (ρ.f 189)) {H : AH} {i off g c : Nat} {o : AO} {xs : List Int}
    (ho : H[i]? = some o) (hg : o.gen = g) (hsz : o.sz = 1) (hro : o.ro = false) (hfit : off + xs.length ≤ o.cells.length)
    (hcs : (o.cells.drop off).take xs.length = ints xs) (hne : xs ≠ []) (hl : xs.length < 4611686018427387904) :
    ACall P (ρ.f 189) [.slice (some ⟨i, off, some g⟩) xs.length c] H (.tuple #[]) (H.set i (putO o off (srt xs))) where
  enters := hE
  good := fun hw hr => by
    refine ⟨fun q hq c hc => ?_, by simp [R3], by simp⟩
    rw [List.length_set]
    rcases List.mem_or_eq_of_mem_set hq with hq | rfl
    · exact hw q hq c hc
    · have hw' := hw o (List.mem_of_getElem? ho)
      simp only [putO, List.mem_append] at hc
      rcases hc with (hc | hc) | hc
      · exact hw' c (List.mem_of_mem_take hc)
      · exact ints_R c hc
      · exact hw' c (List.mem_of_mem_drop hc)
  calls := fun β w args' R hw hr ha => by
    obtain ⟨args'⟩ := args'
    rcases ha with _ | ⟨t, ha⟩
    rcases ha with _ | _
    obtain ⟨l, a, c', hl', hgen, rfl, hn, hcc, ha⟩ := T3.sl R (.one t) (show alive H i g = some o by simp [alive, ho, hg])
    rcases ha with ha | ⟨rfl, hfin⟩
    · have : xs.length = 0 := by omega
      exact absurd (List.length_eq_zero_iff.1 this) hne
    obtain ⟨g1, g2, g3, g4, g5, g6⟩ := R.obj i o l ho hl'
    obtain ⟨arr, harr, hsize⟩ := g6 hro
    have hcell : ∀ j, j < xs.length → o.cells[off + j]? = some (.int .i64 xs[j]!) := fun j hj => by
      have h1 : ((o.cells.drop off).take xs.length)[j]? = (ints xs)[j]? := by rw [hcs]
      rw [List.getElem?_take_of_lt hj, List.getElem?_drop, ints_get hj] at h1
      rw [h1, getElem!_pos xs j hj]
    have hread : ∀ j, j < xs.length → w.cell? ⟨l.b, l.base + off + j, none⟩ = some (.int .i64 xs[j]!) := fun j hj => by
      obtain ⟨v, e1, e2⟩ := g5 (off + j) _ (hcell j hj)
      have := T1.of_plain rfl e2
      subst this
      rw [← e1, Nat.add_assoc]
    have hH : Holds (Value.int .i64) w l.b (l.base + off) xs.toArray := fun j hj => by
      have hj' : j < xs.length := by simpa using hj
      refine ⟨?_, ?_⟩
      · rw [hread j hj']
        simp
      · simp [World.frozen?, harr]
    refine (Any.slices_Sort_int Ly l.b (l.base + off) c' xs w hH (R.loc i l hl') hl).mono ?_
    rintro e w' ⟨he, n, os, rfl⟩
    have hbs := R.loc i l hl'
    have hheap : (grow (putRow (Value.int .i64) (Sort.ahead w n) l.b (l.base + off) (xs.mergeSort fun x y => decide (x ≤ y)).toArray) os).heap = (w.heap.modify l.b (onCells (putCells (Value.int .i64) (l.base + off) (srt xs).toArray))) ++ os := rfl
    have hlen := srt_len xs
    have hfit' : off + (srt xs).length ≤ o.cells.length := by omega
    obtain ⟨R', E⟩ := R.upd (o' := putO o off (srt xs)) (l' := l) (w' := grow (putRow (Value.int .i64) (Sort.ahead w n) l.b (l.base + off) (xs.mergeSort fun x y => decide (x ≤ y)).toArray) os)
      ho hl' hro rfl rfl rfl (by rw [hheap]; simp) (fun k hk hne => by
        rw [hheap, Array.getElem?_append_left (by simpa using hk), Array.getElem?_modify]
        simp [Ne.symm hne]) (.inl rfl) (.inl rfl) rfl rfl hro g1 g2 (g3.trans hro)
      (putCells (Value.int .i64) (l.base + off) (srt xs).toArray arr).toList (by
        rw [hheap, Array.getElem?_append_left (by simpa using hbs), Array.getElem?_modify]
        simp [harr, onCells]) (by simp [putCells, hsize]) (by rw [putO_len hfit']; exact g4) (by
        rw [putO_len hfit']
        refine All2.of_get (by simp [putO_len hfit', putCells, hsize]; omega) fun j a b h1 h2 => ?_
        rw [putO_get hfit'] at h1
        have hj : j < o.cells.length := by
          have := (List.getElem?_eq_some_iff.1 h2).1
          simp at this; omega
        rw [List.getElem?_take_of_lt hj, List.getElem?_drop, Array.getElem?_toList] at h2
        simp only [putCells, Array.getElem?_mapIdx] at h2
        by_cases hr : off ≤ j ∧ j < off + (srt xs).length
        · rw [if_pos hr] at h1
          have hj2 : j - off < (srt xs).length := by omega
          rw [ints_get hj2] at h1
          cases h1
          have hsz2 : l.base + j < arr.size := by omega
          rw [Array.getElem?_eq_getElem hsz2, Option.map_some, if_pos (by simp; omega)] at h2
          cases h2
          rw [show l.base + j - (l.base + off) = j - off by omega, getElem!_pos _ _ (by simpa using hj2)]
          simp only [List.getElem_toArray]
          exact .one (.plain rfl)
        · rw [if_neg hr] at h1
          obtain ⟨v, e1, e2⟩ := g5 j a h1
          obtain ⟨c1, e3, fr, q1, q2⟩ := cells_of_cell? e1
          rw [harr] at q1
          cases q1
          rw [q2, Option.map_some, if_neg (by simp; omega)] at h2
          cases h2
          exact e2)
    exact ⟨_, _, he, R', E, .tup .nil⟩
theorem sort_w {P : Program} {ρ : Ren} (Ly : Lays.n189 P ρ) (hE : Enters P (ρ.f 189)) {H : AH} {B : Nat → Prop} {u : Value} {e : TypeId} {xs : List Int} (hB : Up B H.length) (S0 : Sep H B [flat u e (ints xs)]) (hne : xs ≠ []) (hl : xs.length ≤ 4294967296) :
    ACallT P (ρ.f 189) [u] H (fun v G => AgB B H G ∧ v = .tuple #[] ∧ Sep G B [flat u e (ints (srt xs))]) := by
  have hf : Fresh H 0 e u (ints xs) := by
    rcases S0.own (k := 0) rfl with ⟨_, h⟩ | hf
    · cases xs with
      | nil => exact absurd rfl hne
      | cons a b => cases h
    · exact hf
  obtain ⟨i, off, g, c, o, h0, rfl, h1, h2, h3, h4, h5, h6, h7⟩ := hf
  simp only [ints_len] at h6 h7 ⊢
  have hlen := srt_len xs
  obtain ⟨G', r, s1, s2, s3⟩ := S0.step (k := 0) (it' := flat (.slice (some ⟨i, off, some g⟩) xs.length c) e (ints (srt xs))) rfl hB (fun G' => G' = H.set i (putO o off (srt xs))) fun F ⟨p, pF⟩ hF => by
    refine ⟨_, ids (.slice (some ⟨i, off, some g⟩) xs.length c), rfl, ⟨.inr ?_, rfl⟩, fun j hj => .inl (by rw [pF]; simpa using hj), by simp, fun j hj hm => ?_⟩
    · refine ⟨i, off, g, c, putO o off (srt xs), h0, by simp [hlen], ?_, h2, h3, h4, h5, ?_, ?_⟩
      · rw [List.getElem?_set_self (List.getElem?_eq_some_iff.1 h1).1]
      · rw [putO_len (by omega)]; simp; omega
      · apply List.ext_getElem?
        intro j
        by_cases hj : j < (srt xs).length
        · rw [List.getElem?_take_of_lt (by simpa using hj), List.getElem?_drop, putO_get (by omega), if_pos ⟨by omega, by omega⟩]
          congr 1; omega
        · rw [List.getElem?_eq_none (by simp; omega), List.getElem?_eq_none (by simp; omega)]
    · rw [List.getElem?_set_ne]
      rintro rfl
      exact hm (by rw [pF]; simp [ids, idOf])
  subst r
  exact ⟨_, _, sort_row Ly hE h1 h2 h4 h5 h6 h7 hne (by omega), s2, rfl, s1⟩
end Go.Proofs.Ytigpmjebldgekaa.AL
