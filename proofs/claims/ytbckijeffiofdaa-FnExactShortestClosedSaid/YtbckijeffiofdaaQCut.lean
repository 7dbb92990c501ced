import Derived.Test.YtbckijeffiofdaaQSys
import Derived.Test.YtbckijeffiofdaaF89
import Derived.Test.YtbckijeffiofdaaF90
import Derived.Test.YtbckijeffiofdaaF92
import Derived.Test.YtbckijeffiofdaaF93
/- Pairs, stretches and closed stretches: the program and the reference tell the same. -/
namespace Go.Proofs.Ytbckijeffiofdaa.Cut
open Go.RowKit Go.Proofs.YtbckijeffiofdaaW.PrintWords Go.Proofs.Ytbckijeffiofdaa Go.Proofs.Ytbckijeffiofdaa.Arch Go.Proofs.Ytbckijeffiofdaa.Sys Go.Proofs.Ytbckijeffiofdaa.P

/-- Two systems of as many arches. -/
def pairB (p q : List Int) : Bool := sysB p && (sysB q && decide (p.length = q.length))
theorem pairB_iff (p q : List Int) : pairB p q = true ↔ p.length ≤ 12 ∧ ArcS p ∧ ArcS q ∧ p.length = q.length := by
  unfold pairB
  simp only [Bool.and_eq_true, sysB_iff, decide_eq_true_eq]
  constructor
  · rintro ⟨⟨h1, h2⟩, ⟨_, h3⟩, h4⟩
    exact ⟨h1, h2, h3, h4⟩
  · rintro ⟨h1, h2, h3, h4⟩
    exact ⟨⟨h1, h2⟩, ⟨by omega, h3⟩, h4⟩
theorem len_eq (p q : List Int) : ((p.length : Int) == (q.length : Int)) = decide (p.length = q.length) := by
  rw [Bool.eq_iff_iff]
  simp
  omega

theorem mePair_ev (p q : List Int) (hp : p.length ≤ 140737488351232) (hq : q.length ≤ 140737488351232) : Ev (fun k => spec_mePair.f k p q) (pairB p q) := by
  unfold spec_mePair.f pairB
  refine Ev.bind (ahGood_ev p hp) ?_
  cases sysB p with
  | false => exact EvKit.neg (by simp) (Ev.now _)
  | true =>
    refine EvKit.pos rfl (Ev.bind (ahGood_ev q hq) ?_)
    cases sysB q with
    | false => exact EvKit.neg (by simp) (Ev.now _)
    | true => rw [len_eq]; exact EvKit.pos rfl (Ev.now _)

theorem IsPair_ev (p q : List Int) (hp : p.length ≤ 140737488351232) (hq : q.length ≤ 140737488351232) : Ev (fun k => impl_IsPair.f k p q) (pairB p q) := by
  unfold impl_IsPair.f pairB
  refine Ev.bind (IsSystem_ev p hp) ?_
  cases sysB p with
  | false => exact EvKit.neg (by simp) (Ev.now _)
  | true =>
    refine EvKit.pos rfl (Ev.bind (IsSystem_ev q hq) ?_)
    cases sysB q with
    | false => exact EvKit.neg (by simp) (Ev.now _)
    | true => rw [len_eq]; exact EvKit.pos rfl (Ev.now _)

/-- A pair has a stretch. -/
def stretchB (p q : List Int) (i j : Int) : Bool := pairB p q && (decide (0 ≤ i) && (decide (i < j) && decide (j < p.length)))
theorem stretchB_iff (p q : List Int) (i j : Int) : stretchB p q i j = true ↔ pairB p q = true ∧ 0 ≤ i ∧ i < j ∧ j < p.length := by
  unfold stretchB
  simp [Bool.and_eq_true]

theorem siStretch_ev (p q : List Int) (i j : Int) (hp : p.length ≤ 140737488351232) (hq : q.length ≤ 140737488351232) : Ev (fun k => spec_siStretch.f k p q i j) (stretchB p q i j) := by
  unfold spec_siStretch.f
  refine Ev.bind (mePair_ev p q hp hq) ?_
  by_cases c : pairB p q = true
  · refine EvKit.pos c (EvKit.got (l1In_f _ _ _) ?_)
    rw [EvKit.wr (by omega) (by omega)]
    by_cases c2 : (decide (0 ≤ j) && decide (j ≤ (p.length : Int) - 1)) = true
    · refine EvKit.pos c2 (EvKit.got (l1In_f _ _ _) ?_)
      by_cases c3 : (decide (0 ≤ i) && decide (i ≤ (p.length : Int) - 1)) = true
      · refine EvKit.pos c3 (EvKit.eq ?_ (Ev.now _))
        rw [Bool.eq_iff_iff, stretchB_iff]
        simp at c2 c3 ⊢
        constructor
        · intro h; exact ⟨c, by omega, by omega, by omega⟩
        · rintro ⟨_, h⟩; omega
      · refine EvKit.neg c3 (EvKit.eq ?_ (Ev.now _))
        symm
        rw [Bool.eq_false_iff]
        intro h
        rw [stretchB_iff] at h
        simp at c2 c3
        omega
    · refine EvKit.neg c2 (EvKit.eq ?_ (Ev.now _))
      symm
      rw [Bool.eq_false_iff]
      intro h
      rw [stretchB_iff] at h
      simp at c2
      omega
  · refine EvKit.neg c (EvKit.eq ?_ (Ev.now _))
    unfold stretchB
    rw [Bool.eq_false_iff.mpr c]; rfl

theorem isStretch_ev (p q : List Int) (i j : Int) (hp : p.length ≤ 140737488351232) (hq : q.length ≤ 140737488351232) : Ev (fun k => impl_isStretch.f k p q i j) (stretchB p q i j) := by
  unfold impl_isStretch.f
  refine Ev.bind (IsPair_ev p q hp hq) ?_
  by_cases c : pairB p q = true
  · refine EvKit.pos c (EvKit.got (in_f _ _ _) ?_)
    rw [EvKit.wr (by omega) (by omega), EvKit.wr (x := (p.length : Int) - 1) (by omega) (by omega)]
    by_cases c2 : (decide (0 ≤ i) && decide (i ≤ (p.length : Int) - 2)) = true
    · simp at c2
      rw [EvKit.wr (by omega) (by omega)]
      refine EvKit.pos (by simp; exact c2) (EvKit.got (in_f _ _ _) (EvKit.eq ?_ (Ev.now _)))
      rw [Bool.eq_iff_iff, stretchB_iff]
      simp
      constructor
      · intro h; exact ⟨c, by omega, by omega, by omega⟩
      · rintro ⟨_, h⟩; omega
    · refine EvKit.neg c2 (EvKit.eq ?_ (Ev.now _))
      symm
      rw [Bool.eq_false_iff]
      intro h
      rw [stretchB_iff] at h
      simp at c2
      omega
  · refine EvKit.neg c (EvKit.eq ?_ (Ev.now _))
    unfold stretchB
    rw [Bool.eq_false_iff.mpr c]; rfl

/-- No arch leads out of i .. j, from point k on. -/
def closedFrom (p q : List Int) (i j : Int) : Nat → Int → Bool
  | 0, _ => true
  | d + 1, k => (decide (i ≤ gt p k) && decide (gt p k ≤ j)) && ((decide (i ≤ gt q k) && decide (gt q k ≤ j)) && closedFrom p q i j d (k + 1))
def closedB (p q : List Int) (i j : Int) : Bool := closedFrom p q i j (j + 1 - i).toNat i

theorem closedFrom_iff (p q : List Int) (i j : Int) : ∀ (d : Nat) (k : Int), closedFrom p q i j d k = true ↔ ∀ x : Int, k ≤ x → x < k + d → (i ≤ gt p x ∧ gt p x ≤ j) ∧ i ≤ gt q x ∧ gt q x ≤ j := by
  intro d
  induction d with
  | zero => intro k; simp [closedFrom]; intro x h1 h2; omega
  | succ d ih =>
    intro k
    unfold closedFrom
    simp only [Bool.and_eq_true, decide_eq_true_eq, ih]
    constructor
    · rintro ⟨h1, h2, h3⟩ x h4 h5
      by_cases e : x = k
      · subst e; exact ⟨h1, h2⟩
      · exact h3 x (by omega) (by omega)
    · intro h
      exact ⟨(h k (by omega) (by omega)).1, (h k (by omega) (by omega)).2, fun x h1 h2 => h x (by omega) (by omega)⟩
theorem closedB_iff (p q : List Int) (i j : Int) : closedB p q i j = true ↔ ∀ x : Int, i ≤ x → x ≤ j → (i ≤ gt p x ∧ gt p x ≤ j) ∧ i ≤ gt q x ∧ gt q x ≤ j := by
  unfold closedB
  rw [closedFrom_iff]
  constructor
  · intro h x h1 h2; exact h x h1 (by omega)
  · intro h x h1 h2; exact h x h1 (by omega)

theorem siClosed_ev (p q : List Int) (i j : Int) (h0 : 0 ≤ i) (hj : j < p.length) (hl : p.length = q.length) (hp : p.length ≤ 140737488351232) : Ev (fun k => spec_siClosed.f k p q i j) (closedB p q i j) := by
  have key : ∀ (d : Nat) (x : Int), 0 ≤ x → (j + 1 - x).toNat = d → Ev (fun k => spec_siClosed.l0 k i j x p q) (closedFrom p q i j d x) := by
    intro d
    induction d with
    | zero =>
      intro x hx hd
      refine Ev.step (fun k => by rw [spec_siClosed.l0]) ?_
      exact EvKit.neg (by omega) (Ev.now _)
    | succ d ih =>
      intro x hx hd
      refine Ev.step (fun k => by rw [spec_siClosed.l0]) ?_
      refine EvKit.pos (by omega) (EvKit.pos (by omega) (EvKit.pos (by omega) (EvKit.got (l1In_f _ _ _) ?_)))
      unfold closedFrom
      simp only [rd_gt]
      by_cases c : (decide (i ≤ gt p x) && decide (gt p x ≤ j)) = true
      · refine EvKit.pos c (EvKit.pos (by omega) (EvKit.got (l1In_f _ _ _) ?_))
        rw [c, Bool.true_and]
        by_cases c2 : (decide (i ≤ gt q x) && decide (gt q x ≤ j)) = true
        · refine EvKit.pos c2 ?_
          rw [c2, Bool.true_and, EvKit.wr (by omega) (by omega)]
          exact ih (x + 1) (by omega) (by omega)
        · refine EvKit.neg c2 (EvKit.eq ?_ (Ev.now _))
          rw [Bool.eq_false_iff.mpr c2]; rfl
      · refine EvKit.neg c (EvKit.eq ?_ (Ev.now _))
        rw [Bool.eq_false_iff.mpr c]; rfl
  exact key _ i h0 rfl

theorem isClosed_ev (p q : List Int) (i j : Int) (h0 : 0 ≤ i) (hj : j < p.length) (hl : p.length = q.length) (hp : p.length ≤ 140737488351232) : Ev (fun k => impl_Meander_isClosed.f k p q i j) (closedB p q i j) := by
  have key : ∀ (d : Nat) (x : Int), 0 ≤ x → (j + 1 - x).toNat = d → Ev (fun k => impl_Meander_isClosed.l0 k i j x p q) (closedFrom p q i j d x) := by
    intro d
    induction d with
    | zero =>
      intro x hx hd
      refine Ev.step (fun k => by rw [impl_Meander_isClosed.l0]) ?_
      exact EvKit.neg (by omega) (Ev.now _)
    | succ d ih =>
      intro x hx hd
      refine Ev.step (fun k => by rw [impl_Meander_isClosed.l0]) ?_
      refine EvKit.pos (by omega) (EvKit.pos (by omega) (EvKit.pos (by omega) (EvKit.got (in_f _ _ _) ?_)))
      unfold closedFrom
      simp only [rd_gt]
      by_cases c : (decide (i ≤ gt p x) && decide (gt p x ≤ j)) = true
      · refine EvKit.pos c (EvKit.pos (by omega) (EvKit.got (in_f _ _ _) ?_))
        rw [c, Bool.true_and]
        by_cases c2 : (decide (i ≤ gt q x) && decide (gt q x ≤ j)) = true
        · refine EvKit.pos c2 ?_
          rw [c2, Bool.true_and, EvKit.wr (by omega) (by omega)]
          exact ih (x + 1) (by omega) (by omega)
        · refine EvKit.neg c2 (EvKit.eq ?_ (Ev.now _))
          rw [Bool.eq_false_iff.mpr c2]; rfl
      · refine EvKit.neg c (EvKit.eq ?_ (Ev.now _))
        rw [Bool.eq_false_iff.mpr c]; rfl
  exact key _ i h0 rfl

end Go.Proofs.Ytbckijeffiofdaa.Cut
