import Derived.Test.YtbckijeffiofdaaQCut
import Derived.Test.YtbckijeffiofdaaF100
import Derived.Test.YtbckijeffiofdaaF101
/- The proper closed stretches: the program and the reference list the same. -/
namespace Go.Proofs.Ytbckijeffiofdaa.Cut
open Go.RowKit Go.Proofs.YtbckijeffiofdaaW.PrintWords Go.Proofs.Ytbckijeffiofdaa Go.Proofs.Ytbckijeffiofdaa.Arch Go.Proofs.Ytbckijeffiofdaa.Sys Go.Proofs.Ytbckijeffiofdaa.P

/-- Is i .. j a proper closed stretch? -/
def properB (p q : List Int) (i j : Int) : Bool := decide (j - i + 1 < p.length) && closedB p q i j
def innerL (p q : List Int) (i : Int) : Nat → Int → List (List Int) → List (List Int)
  | 0, _, acc => acc
  | d + 1, j, acc => innerL p q i d (j + 1) (if properB p q i j then acc ++ [[i, j]] else acc)
def outerL (p q : List Int) : Nat → Int → List (List Int) → List (List Int)
  | 0, _, acc => acc
  | d + 1, i, acc => outerL p q d (i + 1) (innerL p q i d (i + 1) acc)
def stretchesL (p q : List Int) : List (List Int) := outerL p q p.length 0 []

theorem innerL_len (p q : List Int) (i : Int) : ∀ (d : Nat) (j : Int) (acc : List (List Int)), (innerL p q i d j acc).length ≤ acc.length + d := by
  intro d
  induction d with
  | zero => intro j acc; exact Nat.le_refl _
  | succ d ih =>
    intro j acc
    unfold innerL
    refine Nat.le_trans (ih _ _) ?_
    split
    · simp; omega
    · omega

theorem siAll_ev (p q : List Int) (hp : p.length ≤ 12) (hl : p.length = q.length) : Ev (fun k => spec_siAll.f k p q) (stretchesL p q) := by
  have inner : ∀ (i : Nat) (r : List (List Int)) (res : List (List Int)), i < p.length → Ev (fun k => spec_siAll.l0 k p.length res ((i : Int) + 1) p q) r →
      ∀ (d : Nat) (j : Int) (acc : List (List Int)), (i : Int) < j → j + d = p.length → acc.length ≤ 12 * i + j → innerL p q i d j acc = res → Ev (fun k => spec_siAll.l1 k p.length acc i j p q) r := by
    intro i r res hi hnext d
    induction d with
    | zero =>
      intro j acc hj hd ha hres
      refine Ev.step (fun k => by rw [spec_siAll.l1]) ?_
      refine EvKit.neg (by omega) ?_
      rw [EvKit.wr (by omega) (by omega)]
      have : acc = res := hres
      rw [this]
      exact hnext
    | succ d ih =>
      intro j acc hj hd ha hres
      refine Ev.step (fun k => by rw [spec_siAll.l1]) ?_
      refine EvKit.pos (by omega) ?_
      rw [EvKit.wr (x := j - i) (by omega) (by omega), EvKit.wr (x := j - i + 1) (by omega) (by omega), EvKit.wr (x := j + 1) (by omega) (by omega)]
      unfold innerL at hres
      by_cases c : j - i + 1 < (p.length : Int)
      · refine EvKit.pos c (Ev.bind (siClosed_ev p q i j (by omega) (by omega) hl (by omega)) ?_)
        by_cases c2 : closedB p q i j = true
        · refine EvKit.pos c2 (EvKit.pos (by omega) ?_)
          have e : properB p q i j = true := by unfold properB; rw [c2, decide_eq_true c]; rfl
          rw [if_pos e] at hres
          exact ih (j + 1) _ (by omega) (by omega) (by simp; omega) hres
        · refine EvKit.neg c2 ?_
          have e : ¬ properB p q i j = true := by unfold properB; rw [Bool.eq_false_iff.mpr c2]; simp
          rw [if_neg e] at hres
          exact ih (j + 1) _ (by omega) (by omega) (by omega) hres
      · refine EvKit.neg c ?_
        have e : ¬ properB p q i j = true := by unfold properB; rw [decide_eq_false c]; simp
        rw [if_neg e] at hres
        exact ih (j + 1) _ (by omega) (by omega) (by omega) hres
  have outer : ∀ (d i : Nat) (acc : List (List Int)), i + d = p.length → acc.length ≤ 12 * i → Ev (fun k => spec_siAll.l0 k p.length acc i p q) (outerL p q d i acc) := by
    intro d
    induction d with
    | zero =>
      intro i acc hi ha
      refine Ev.step (fun k => by rw [spec_siAll.l0]) ?_
      exact EvKit.neg (by omega) (Ev.now _)
    | succ d ih =>
      intro i acc hi ha
      refine Ev.step (fun k => by rw [spec_siAll.l0]) ?_
      refine EvKit.pos (by omega) ?_
      rw [EvKit.wr (by omega) (by omega)]
      unfold outerL
      refine inner i _ (innerL p q i d ((i : Int) + 1) acc) (by omega) ?_ d ((i : Int) + 1) acc (by omega) (by omega) (by omega) rfl
      have h := innerL_len p q i d ((i : Int) + 1) acc
      exact ih (i + 1) _ (by omega) (by omega)
  exact outer p.length 0 [] (by omega) (by simp)

theorem stretches_ev (p q : List Int) (hp : p.length ≤ 12) (hl : p.length = q.length) : Ev (fun k => impl_Meander_stretches.f k p q) (stretchesL p q) := by
  have inner : ∀ (i : Nat) (r : List (List Int)) (res : List (List Int)), i < p.length → Ev (fun k => impl_Meander_stretches.l0 k res p.length ((i : Int) + 1) p q) r →
      ∀ (d : Nat) (j : Int) (acc : List (List Int)), (i : Int) < j → j + d = p.length → acc.length ≤ 12 * i + j → innerL p q i d j acc = res → Ev (fun k => impl_Meander_stretches.l1 k acc i j p.length i p q) r := by
    intro i r res hi hnext d
    induction d with
    | zero =>
      intro j acc hj hd ha hres
      refine Ev.step (fun k => by rw [impl_Meander_stretches.l1]) ?_
      refine EvKit.neg (by omega) ?_
      rw [EvKit.wr (by omega) (by omega)]
      have : acc = res := hres
      rw [this]
      exact hnext
    | succ d ih =>
      intro j acc hj hd ha hres
      refine Ev.step (fun k => by rw [impl_Meander_stretches.l1]) ?_
      refine EvKit.pos (by omega) ?_
      rw [EvKit.wr (x := j - i) (by omega) (by omega), EvKit.wr (x := j - i + 1) (by omega) (by omega), EvKit.wr (x := j + 1) (by omega) (by omega)]
      unfold innerL at hres
      by_cases c : j - i + 1 < (p.length : Int)
      · refine EvKit.pos c (Ev.bind (isClosed_ev p q i j (by omega) (by omega) hl (by omega)) ?_)
        by_cases c2 : closedB p q i j = true
        · refine EvKit.pos c2 (EvKit.pos (by omega) ?_)
          have e : properB p q i j = true := by unfold properB; rw [c2, decide_eq_true c]; rfl
          rw [if_pos e] at hres
          exact ih (j + 1) _ (by omega) (by omega) (by simp; omega) hres
        · refine EvKit.neg c2 ?_
          have e : ¬ properB p q i j = true := by unfold properB; rw [Bool.eq_false_iff.mpr c2]; simp
          rw [if_neg e] at hres
          exact ih (j + 1) _ (by omega) (by omega) (by omega) hres
      · refine EvKit.neg c ?_
        have e : ¬ properB p q i j = true := by unfold properB; rw [decide_eq_false c]; simp
        rw [if_neg e] at hres
        exact ih (j + 1) _ (by omega) (by omega) (by omega) hres
  have outer : ∀ (d i : Nat) (acc : List (List Int)), i + d = p.length → acc.length ≤ 12 * i → Ev (fun k => impl_Meander_stretches.l0 k acc p.length i p q) (outerL p q d i acc) := by
    intro d
    induction d with
    | zero =>
      intro i acc hi ha
      refine Ev.step (fun k => by rw [impl_Meander_stretches.l0]) ?_
      exact EvKit.neg (by omega) (Ev.now _)
    | succ d ih =>
      intro i acc hi ha
      refine Ev.step (fun k => by rw [impl_Meander_stretches.l0]) ?_
      refine EvKit.pos (by omega) ?_
      rw [EvKit.wr (by omega) (by omega)]
      unfold outerL
      refine inner i _ (innerL p q i d ((i : Int) + 1) acc) (by omega) ?_ d ((i : Int) + 1) acc (by omega) (by omega) (by omega) rfl
      have h := innerL_len p q i d ((i : Int) + 1) acc
      exact ih (i + 1) _ (by omega) (by omega)
  exact outer p.length 0 [] (by omega) (by simp)

end Go.Proofs.Ytbckijeffiofdaa.Cut
