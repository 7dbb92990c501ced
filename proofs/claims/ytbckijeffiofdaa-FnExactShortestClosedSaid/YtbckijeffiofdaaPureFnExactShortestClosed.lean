import Derived.Test.YtbckijeffiofdaaQShort
import Derived.Test.YtbckijeffiofdaaQLaw
import Derived.Test.YtbckijeffiofdaaF5
/- Of every pair the program's ShortestClosed and the reference's tell the same: the plain side. -/
namespace Go.Proofs.Ytbckijeffiofdaa.Pure
open Go.RowKit Go.Proofs.YtbckijeffiofdaaW.PrintWords Go.Proofs.Ytbckijeffiofdaa Go.Proofs.Ytbckijeffiofdaa.Arch Go.Proofs.Ytbckijeffiofdaa.Sys Go.Proofs.Ytbckijeffiofdaa.Cut Go.Proofs.Ytbckijeffiofdaa.LawKit Go.Proofs.Ytbckijeffiofdaa.P

/-- What both tell. -/
def shortT (p q : List Int) : Int × Int × Bool :=
  if pairB p q = true then (if (shFold false (stretchesL p q) []).length = 0 then (0, 0, false) else (rd (shFold false (stretchesL p q) []) 0, rd (shFold false (stretchesL p q) []) 1, true)) else (0, 0, false)

theorem spec_ShortestClosed_ev (p q : List Int) (hp : p.length ≤ 140737488351232) (hq : q.length ≤ 140737488351232) : Ev (fun k => spec_ShortestClosed.f k p q) (shortT p q) := by
  unfold spec_ShortestClosed.f
  refine Ev.bind (mePair_ev p q hp hq) ?_
  unfold shortT
  by_cases c : pairB p q = true
  · have h2 := (pairB_iff p q).1 c
    rw [if_pos c, c]
    refine EvKit.pos rfl (Ev.bind (siShortest_ev p q false h2.1 h2.2.2.2) ?_)
    rcases shortest_two p q false with h | h
    · exact EvKit.eq (if_pos h).symm (EvKit.pos (by omega) (Ev.now _))
    · exact EvKit.eq (if_neg (by omega)).symm (EvKit.neg (by omega) (EvKit.pos (by omega) (EvKit.pos (by omega) (Ev.now _))))
  · rw [if_neg c, Bool.eq_false_iff.mpr c]
    exact EvKit.neg (by simp) (Ev.now _)

theorem impl_ShortestClosed_ev (p q : List Int) (hp : p.length ≤ 140737488351232) (hq : q.length ≤ 140737488351232) : Ev (fun k => impl_ShortestClosed.f k p q) (shortT p q) := by
  unfold impl_ShortestClosed.f
  refine Ev.bind (IsPair_ev p q hp hq) ?_
  unfold shortT
  by_cases c : pairB p q = true
  · have h2 := (pairB_iff p q).1 c
    rw [if_pos c, c]
    refine EvKit.pos rfl (Ev.bind (shortest_ev p q false h2.1 h2.2.2.2) ?_)
    by_cases h : (shFold false (stretchesL p q) []).length = 0
    · exact EvKit.eq (if_pos h).symm (EvKit.pos h (Ev.now _))
    · exact EvKit.eq (if_neg h).symm (EvKit.neg h (Ev.now _))
  · rw [if_neg c, Bool.eq_false_iff.mpr c]
    exact EvKit.neg (by simp) (Ev.now _)

theorem FnExactShortestClosed : ∀ (l0_0 : List Int) (l0_1 : List Int), l0_0.length ≤ maxLen → (∀ x ∈ l0_0, (Lit.int .i64 x).wf = true) → l0_1.length ≤ maxLen → (∀ x ∈ l0_1, (Lit.int .i64 x).wf = true) → ∃ k, laws_FnExactShortestClosed.f k l0_0 l0_1 = some true := by
  intro p q hp _ hq _
  refine Ev.rounds ?_
  unfold laws_FnExactShortestClosed.f
  refine EvKit.got (szMeander_f p q _ hp hq (by omega) (by omega)) ?_
  by_cases c : (p.length : Int) + q.length ≤ 1048576
  · rw [if_pos c]
    refine EvKit.neg (by omega) ?_
    refine Ev.bind (toMeander_ev p q (by omega) (by omega)) ?_
    refine Ev.bind (spec_ShortestClosed_ev p q (by omega) (by omega)) ?_
    refine Ev.bind (toMeander_ev p q (by omega) (by omega)) ?_
    refine Ev.bind (impl_ShortestClosed_ev p q (by omega) (by omega)) ?_
    refine EvKit.pos rfl (EvKit.pos rfl ?_)
    refine Ev.step (fun k => by rw [laws_FnExactShortestClosed.j0]) ?_
    refine EvKit.neg (by simp) ?_
    refine Ev.bind (toMeander_ev p q (by omega) (by omega)) ?_
    refine Ev.bind (eqMeander_ev p q p q (by omega) (by omega)) ?_
    exact EvKit.pos (by simp) (Ev.now _)
  · rw [if_neg c]
    exact EvKit.pos (by omega) (Ev.now _)

end Go.Proofs.Ytbckijeffiofdaa.Pure
