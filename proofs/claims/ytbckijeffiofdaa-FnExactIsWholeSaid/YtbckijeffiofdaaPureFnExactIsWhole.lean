import Derived.Test.YtbckijeffiofdaaQStretch
import Derived.Test.YtbckijeffiofdaaQLaw
import Derived.Test.YtbckijeffiofdaaF4
/- Of every pair the program's IsWhole and the reference's tell the same: the plain side. -/
namespace Go.Proofs.Ytbckijeffiofdaa.Pure
open Go.RowKit Go.Proofs.YtbckijeffiofdaaW.PrintWords Go.Proofs.Ytbckijeffiofdaa Go.Proofs.Ytbckijeffiofdaa.Arch Go.Proofs.Ytbckijeffiofdaa.Sys Go.Proofs.Ytbckijeffiofdaa.Cut Go.Proofs.Ytbckijeffiofdaa.LawKit Go.Proofs.Ytbckijeffiofdaa.P

/-- Some arches, and no proper closed stretch. -/
def wholeB (p q : List Int) : Bool := decide (0 < p.length) && decide ((stretchesL p q).length = 0)

theorem len_zero (l : List (List Int)) : ((l.length : Int) == 0) = decide (l.length = 0) := by
  rw [Bool.eq_iff_iff]; simp

theorem spec_IsWhole_ev (p q : List Int) (hp : p.length ≤ 140737488351232) (hq : q.length ≤ 140737488351232) : Ev (fun k => spec_IsWhole.f k p q) (pairB p q && wholeB p q, pairB p q) := by
  unfold spec_IsWhole.f
  refine Ev.bind (mePair_ev p q hp hq) ?_
  by_cases c : pairB p q = true
  · have h2 := (pairB_iff p q).1 c
    rw [c]
    refine EvKit.pos rfl ?_
    have h : Ev (fun k => spec_siWhole.f k p q) (wholeB p q) := by
      unfold spec_siWhole.f wholeB
      by_cases c2 : 0 < p.length
      · refine EvKit.pos (by omega) (Ev.bind (siAll_ev p q h2.1 h2.2.2.2) ?_)
        rw [len_zero, decide_eq_true c2, Bool.true_and]
        exact Ev.now _
      · refine EvKit.neg (by omega) ?_
        rw [decide_eq_false c2]
        exact Ev.now _
    rw [Bool.true_and]
    exact Ev.bind h (Ev.now _)
  · rw [Bool.eq_false_iff.mpr c]
    exact EvKit.neg (by simp) (Ev.now _)

theorem impl_IsWhole_ev (p q : List Int) (hp : p.length ≤ 140737488351232) (hq : q.length ≤ 140737488351232) : Ev (fun k => impl_IsWhole.f k p q) (pairB p q && wholeB p q, pairB p q) := by
  unfold impl_IsWhole.f
  refine Ev.bind (IsPair_ev p q hp hq) ?_
  by_cases c : pairB p q = true
  · have h2 := (pairB_iff p q).1 c
    rw [c]
    refine EvKit.pos rfl ?_
    have h : Ev (fun k => impl_Meander_isWhole.f k p q) (wholeB p q) := by
      unfold impl_Meander_isWhole.f wholeB
      by_cases c2 : 0 < p.length
      · refine EvKit.pos (by omega) (Ev.bind (stretches_ev p q h2.1 h2.2.2.2) ?_)
        rw [len_zero, decide_eq_true c2, Bool.true_and]
        exact Ev.now _
      · refine EvKit.neg (by omega) ?_
        rw [decide_eq_false c2]
        exact Ev.now _
    rw [Bool.true_and]
    exact Ev.bind h (Ev.now _)
  · rw [Bool.eq_false_iff.mpr c]
    exact EvKit.neg (by simp) (Ev.now _)

theorem FnExactIsWhole : ∀ (l0_0 : List Int) (l0_1 : List Int), l0_0.length ≤ maxLen → (∀ x ∈ l0_0, (Lit.int .i64 x).wf = true) → l0_1.length ≤ maxLen → (∀ x ∈ l0_1, (Lit.int .i64 x).wf = true) → ∃ k, laws_FnExactIsWhole.f k l0_0 l0_1 = some true := by
  intro p q hp _ hq _
  refine Ev.rounds ?_
  unfold laws_FnExactIsWhole.f
  refine EvKit.got (szMeander_f p q _ hp hq (by omega) (by omega)) ?_
  by_cases c : (p.length : Int) + q.length ≤ 1048576
  · rw [if_pos c]
    refine EvKit.neg (by omega) ?_
    refine Ev.bind (toMeander_ev p q (by omega) (by omega)) ?_
    refine Ev.bind (spec_IsWhole_ev p q (by omega) (by omega)) ?_
    refine Ev.bind (toMeander_ev p q (by omega) (by omega)) ?_
    refine Ev.bind (impl_IsWhole_ev p q (by omega) (by omega)) ?_
    refine EvKit.neg (by simp) ?_
    refine Ev.step (fun k => by rw [laws_FnExactIsWhole.j0]) ?_
    refine EvKit.neg (by simp) ?_
    refine Ev.bind (toMeander_ev p q (by omega) (by omega)) ?_
    refine Ev.bind (eqMeander_ev p q p q (by omega) (by omega)) ?_
    exact EvKit.pos (by simp) (Ev.now _)
  · rw [if_neg c]
    exact EvKit.pos (by omega) (Ev.now _)

end Go.Proofs.Ytbckijeffiofdaa.Pure
