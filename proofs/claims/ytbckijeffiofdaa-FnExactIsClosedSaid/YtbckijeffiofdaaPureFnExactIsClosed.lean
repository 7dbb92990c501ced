import Derived.Test.YtbckijeffiofdaaQCut
import Derived.Test.YtbckijeffiofdaaQLaw
import Derived.Test.YtbckijeffiofdaaF3
/- Of every pair and every stretch the program's IsClosed and the reference's tell the same: the plain side. -/
namespace Go.Proofs.Ytbckijeffiofdaa.Pure
open Go.RowKit Go.Proofs.YtbckijeffiofdaaW.PrintWords Go.Proofs.Ytbckijeffiofdaa Go.Proofs.Ytbckijeffiofdaa.Arch Go.Proofs.Ytbckijeffiofdaa.Sys Go.Proofs.Ytbckijeffiofdaa.Cut Go.Proofs.Ytbckijeffiofdaa.LawKit Go.Proofs.Ytbckijeffiofdaa.P

theorem spec_IsClosed_ev (p q : List Int) (i j : Int) (hp : p.length ≤ 140737488351232) (hq : q.length ≤ 140737488351232) : Ev (fun k => spec_IsClosed.f k p q i j) (stretchB p q i j && closedB p q i j, stretchB p q i j) := by
  unfold spec_IsClosed.f
  refine Ev.bind (siStretch_ev p q i j hp hq) ?_
  by_cases c : stretchB p q i j = true
  · have h := (stretchB_iff p q i j).1 c
    have h2 := (pairB_iff p q).1 h.1
    rw [c]
    refine EvKit.pos rfl (Ev.bind (siClosed_ev p q i j h.2.1 h.2.2.2 h2.2.2.2 hp) ?_)
    rw [Bool.true_and]
    exact Ev.now _
  · rw [Bool.eq_false_iff.mpr c]
    exact EvKit.neg (by simp) (Ev.now _)

theorem impl_IsClosed_ev (p q : List Int) (i j : Int) (hp : p.length ≤ 140737488351232) (hq : q.length ≤ 140737488351232) : Ev (fun k => impl_IsClosed.f k p q i j) (stretchB p q i j && closedB p q i j, stretchB p q i j) := by
  unfold impl_IsClosed.f
  refine Ev.bind (isStretch_ev p q i j hp hq) ?_
  by_cases c : stretchB p q i j = true
  · have h := (stretchB_iff p q i j).1 c
    have h2 := (pairB_iff p q).1 h.1
    rw [c]
    refine EvKit.pos rfl (Ev.bind (isClosed_ev p q i j h.2.1 h.2.2.2 h2.2.2.2 hp) ?_)
    rw [Bool.true_and]
    exact Ev.now _
  · rw [Bool.eq_false_iff.mpr c]
    exact EvKit.neg (by simp) (Ev.now _)

theorem FnExactIsClosed : ∀ (l0_0 : List Int) (l0_1 : List Int) (a1 : Int) (a2 : Int), l0_0.length ≤ maxLen → (∀ x ∈ l0_0, (Lit.int .i64 x).wf = true) → l0_1.length ≤ maxLen → (∀ x ∈ l0_1, (Lit.int .i64 x).wf = true) → (Lit.int .i64 a1).wf = true → (Lit.int .i64 a2).wf = true → ∃ k, laws_FnExactIsClosed.f k l0_0 l0_1 a1 a2 = some true := by
  intro p q i j hp _ hq _ _ _
  refine Ev.rounds ?_
  unfold laws_FnExactIsClosed.f
  refine EvKit.got (szMeander_f p q _ hp hq (by omega) (by omega)) ?_
  by_cases c : (p.length : Int) + q.length ≤ 1048576
  · rw [if_pos c]
    refine EvKit.neg (by omega) ?_
    refine Ev.bind (toMeander_ev p q (by omega) (by omega)) ?_
    refine Ev.bind (spec_IsClosed_ev p q i j (by omega) (by omega)) ?_
    refine Ev.bind (toMeander_ev p q (by omega) (by omega)) ?_
    refine Ev.bind (impl_IsClosed_ev p q i j (by omega) (by omega)) ?_
    refine EvKit.neg (by simp) ?_
    refine Ev.step (fun k => by rw [laws_FnExactIsClosed.j0]) ?_
    refine EvKit.neg (by simp) ?_
    refine Ev.bind (toMeander_ev p q (by omega) (by omega)) ?_
    refine Ev.bind (eqMeander_ev p q p q (by omega) (by omega)) ?_
    exact EvKit.pos (by simp) (Ev.now _)
  · rw [if_neg c]
    exact EvKit.pos (by omega) (Ev.now _)

end Go.Proofs.Ytbckijeffiofdaa.Pure
