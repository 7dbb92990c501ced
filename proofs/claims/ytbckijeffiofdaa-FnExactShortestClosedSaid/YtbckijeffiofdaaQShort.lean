import Derived.Test.YtbckijeffiofdaaQStretch
import Derived.Test.YtbckijeffiofdaaGShortest
/- The shortest proper closed stretch: the program and the reference take the same. -/
namespace Go.Proofs.Ytbckijeffiofdaa.Cut
open Go.RowKit Go.Proofs.YtbckijeffiofdaaW.PrintWords Go.Proofs.Ytbckijeffiofdaa Go.Proofs.Ytbckijeffiofdaa.Arch Go.Proofs.Ytbckijeffiofdaa.Sys Go.Proofs.Ytbckijeffiofdaa.P

theorem innerL_rows (p q : List Int) (i : Int) : ∀ (d : Nat) (j : Int) (acc : List (List Int)), (∀ r ∈ acc, r.length = 2) → ∀ r ∈ innerL p q i d j acc, r.length = 2 := by
  intro d
  induction d with
  | zero => intro j acc h; exact h
  | succ d ih =>
    intro j acc h
    unfold innerL
    refine ih _ _ ?_
    split
    · intro r hr
      rcases List.mem_append.1 hr with hr | hr
      · exact h r hr
      · rw [List.mem_singleton.1 hr]; rfl
    · exact h

theorem outerL_rows (p q : List Int) : ∀ (d : Nat) (i : Int) (acc : List (List Int)), (∀ r ∈ acc, r.length = 2) → ∀ r ∈ outerL p q d i acc, r.length = 2 := by
  intro d
  induction d with
  | zero => intro i acc h; exact h
  | succ d ih =>
    intro i acc h
    unfold outerL
    exact ih _ _ (innerL_rows p q i d _ acc h)

theorem stretchesL_rows (p q : List Int) : ∀ r ∈ stretchesL p q, r.length = 2 := outerL_rows p q _ _ _ (by simp)

theorem outerL_len (p q : List Int) : ∀ (d : Nat) (i : Int) (acc : List (List Int)), d ≤ 12 → (outerL p q d i acc).length ≤ acc.length + 12 * d := by
  intro d
  induction d with
  | zero => intro i acc _; exact Nat.le_refl _
  | succ d ih =>
    intro i acc hd
    unfold outerL
    have h1 := ih (i + 1) (innerL p q i d (i + 1) acc) (by omega)
    have h2 := innerL_len p q i d (i + 1) acc
    omega

theorem stretchesL_len (p q : List Int) (hp : p.length ≤ 12) : (stretchesL p q).length ≤ 144 := by
  have h := outerL_len p q p.length 0 [] hp
  unfold stretchesL
  simp at h
  omega

def shFold (last : Bool) (rows : List (List Int)) (best : List Int) : List Int := rows.foldl (fun b o => if shTakes last b o = true then o else b) best

theorem shGo_ev (last : Bool) (rows : List (List Int)) (hl : rows.length ≤ 1000000) (h2 : ∀ r ∈ rows, r.length = 2) : ∀ (d i : Nat) (best : List Int), i + d = rows.length → Ev (fun k => shGo k last rows best i) (shFold last (rows.drop i) best) := by
  intro d
  induction d with
  | zero =>
    intro i best hi
    refine Ev.step (fun k => by rw [shGo]) ?_
    rw [List.drop_of_length_le (by omega)]
    exact EvKit.neg (by omega) (Ev.now _)
  | succ d ih =>
    intro i best hi
    refine Ev.step (fun k => by rw [shGo]) ?_
    have e : rd_L9 rows (i : Int) = rows[i]'(by omega) := by
      unfold rd_L9
      rw [Int.toNat_natCast, List.getD_eq_getElem?_getD, List.getElem?_eq_getElem (by omega)]
      rfl
    rw [List.drop_eq_getElem_cons (by omega)]
    refine EvKit.pos (by omega) (EvKit.pos (by omega) (EvKit.pos ?_ ?_))
    · rw [e]; exact h2 _ (List.getElem_mem _)
    · rw [EvKit.wr (by omega) (by omega), e]
      exact ih (i + 1) _ (by omega)

theorem siShortest_ev (p q : List Int) (last : Bool) (hp : p.length ≤ 12) (hl : p.length = q.length) : Ev (fun k => spec_siShortest.f k p q last) (shFold last (stretchesL p q) []) := by
  unfold spec_siShortest.f
  refine Ev.bind (siAll_ev p q hp hl) ?_
  have h := stretchesL_len p q hp
  exact shGo_ev last _ (by omega) (stretchesL_rows p q) _ 0 [] (Nat.zero_add _)

theorem shortest_ev (p q : List Int) (last : Bool) (hp : p.length ≤ 12) (hl : p.length = q.length) : Ev (fun k => impl_Meander_shortest.f k p q last) (shFold last (stretchesL p q) []) := by
  unfold impl_Meander_shortest.f
  refine Ev.bind (stretches_ev p q hp hl) ?_
  have h := stretchesL_len p q hp
  exact shGo_ev last _ (by omega) (stretchesL_rows p q) _ 0 [] (Nat.zero_add _)

theorem shFold_two (last : Bool) : ∀ (rows : List (List Int)) (best : List Int), (∀ r ∈ rows, r.length = 2) → best.length = 0 ∨ best.length = 2 → (shFold last rows best).length = 0 ∨ (shFold last rows best).length = 2 := by
  intro rows
  induction rows with
  | nil => intro best _ h; exact h
  | cons r rest ih =>
    intro best h hb
    refine ih _ (fun x hx => h x (List.mem_cons_of_mem _ hx)) ?_
    show (if shTakes last best r = true then r else best).length = 0 ∨ (if shTakes last best r = true then r else best).length = 2
    split
    · exact .inr (h r List.mem_cons_self)
    · exact hb

theorem shortest_two (p q : List Int) (last : Bool) : (shFold last (stretchesL p q) []).length = 0 ∨ (shFold last (stretchesL p q) []).length = 2 := shFold_two last _ _ (stretchesL_rows p q) (.inl rfl)

end Go.Proofs.Ytbckijeffiofdaa.Cut
