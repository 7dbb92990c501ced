import Derived.Test.YtbckijeffiofdaaQKit
import Derived.Test.YtbckijeffiofdaaQArch
import Derived.Test.YtbckijeffiofdaaF133
import Derived.Test.YtbckijeffiofdaaF134
/- The program's check of a system and the reference's tell the same. -/
namespace Go.Proofs.Ytbckijeffiofdaa.Sys
open Go.RowKit Go.Proofs.YtbckijeffiofdaaW.PrintWords Go.Proofs.Ytbckijeffiofdaa Go.Proofs.Ytbckijeffiofdaa.Arch Go.Proofs.Ytbckijeffiofdaa.P

theorem rd_gt (p : List Int) (i : Int) : rd p i = gt p i := rfl

/-- The check of a system, at most twelve points. -/
def sysB (p : List Int) : Bool := decide (p.length ≤ 12) && (decide (p.length % 2 = 0) && (p.all (fun x => decide (0 ≤ x) && decide (x < p.length)) && okFrom p p.length 0 []))

theorem range_of_all {p : List Int} (h : p.all (fun x => decide (0 ≤ x) && decide (x < p.length)) = true) : ∀ i : Int, 0 ≤ i → i < p.length → 0 ≤ gt p i ∧ gt p i < p.length := by
  intro i h0 h1
  rw [List.all_eq_true] at h
  have hm : gt p i ∈ p := by
    unfold gt
    rw [List.getD_eq_getElem?_getD, List.getElem?_eq_getElem (by omega : i.toNat < p.length)]
    exact List.getElem_mem _
  have := h _ hm
  simpa using this

theorem all_of_range {p : List Int} (h : ∀ i : Int, 0 ≤ i → i < p.length → 0 ≤ gt p i ∧ gt p i < p.length) : p.all (fun x => decide (0 ≤ x) && decide (x < p.length)) = true := by
  rw [List.all_eq_true]
  intro x hx
  obtain ⟨j, hj, rfl⟩ := List.getElem_of_mem hx
  have := h j (by omega) (by omega)
  unfold gt at this
  rw [List.getD_eq_getElem?_getD, List.getElem?_eq_getElem (by omega : (j : Int).toNat < p.length)] at this
  simpa using this

theorem sysB_iff (p : List Int) : sysB p = true ↔ p.length ≤ 12 ∧ ArcS p := by
  unfold sysB
  simp only [Bool.and_eq_true, decide_eq_true_eq]
  constructor
  · rintro ⟨h1, h2, h3, h4⟩
    exact ⟨h1, sys_of_ok (range_of_all h3) h4⟩
  · rintro ⟨h1, h⟩
    exact ⟨h1, even_of_sys h, all_of_range (fun i h0 h1 => ⟨h.lo i h0 h1, h.hi i h0 h1⟩), ok_of_sys h p.length 0 (by omega)⟩

/-! ### the reference's check -/
theorem l1In_f (a b c : Int) : spec_l1In.f a b c = some (decide (b ≤ a) && decide (a ≤ c)) := by
  unfold spec_l1In.f
  by_cases h : a ≥ b
  · rw [if_pos h]; simp [show b ≤ a from h]
  · rw [if_neg h]; simp [show ¬ b ≤ a from h]
theorem in_f (a b c : Int) : impl_in.f a b c = some (decide (b ≤ a) && decide (a ≤ c)) := by
  unfold impl_in.f
  by_cases h : b ≤ a
  · rw [if_pos h]; simp [h]
  · rw [if_neg h]; simp [h]

theorem drop_gt (p : List Int) (i : Nat) (h : i < p.length) : p.drop i = gt p i :: p.drop (i + 1) := by
  rw [List.drop_eq_getElem_cons h]
  congr 1
  unfold gt
  rw [List.getD_eq_getElem?_getD, Int.toNat_natCast, List.getElem?_eq_getElem h]; rfl

theorem l1All_ev (p : List Int) (a b : Int) (hp : p.length ≤ 140737488351232) : Ev (fun k => spec_l1All.f k p a b) (p.all fun x => decide (a ≤ x) && decide (x ≤ b)) := by
  have key : ∀ (d i : Nat), i + d = p.length → Ev (fun k => spec_l1All.l0 k a b p p.length i) ((p.drop i).all fun x => decide (a ≤ x) && decide (x ≤ b)) := by
    intro d
    induction d with
    | zero =>
      intro i hi
      refine Ev.step (fun k => by rw [spec_l1All.l0]) ?_
      refine EvKit.neg (by omega) ?_
      rw [List.drop_of_length_le (by omega)]
      exact Ev.now _
    | succ d ih =>
      intro i hi
      refine Ev.step (fun k => by rw [spec_l1All.l0]) ?_
      refine EvKit.pos (by omega) (EvKit.pos (by omega) (EvKit.pos (by omega) (EvKit.got (l1In_f _ _ _) ?_)))
      rw [drop_gt p i (by omega), List.all_cons]
      by_cases c : (decide (a ≤ rd p i) && decide (rd p i ≤ b)) = true
      · refine EvKit.pos c ?_
        rw [EvKit.wr (by omega) (by omega)]
        rw [rd_gt] at c
        rw [c, Bool.true_and]
        exact ih (i + 1) (by omega)
      · refine EvKit.neg c ?_
        rw [rd_gt] at c
        rw [Bool.eq_false_iff.mpr c, Bool.false_and]
        exact Ev.now _
  have := key p.length 0 (by omega)
  exact this

theorem ahGood_l0 (p : List Int) (hp : p.length ≤ 12) (hr : ∀ i : Int, 0 ≤ i → i < p.length → 0 ≤ gt p i ∧ gt p i < p.length) : ∀ (d i : Nat) (O : List Int), i + d = p.length → O.length ≤ i →
    Ev (fun k => spec_ahGood.l0 k p O p p.length i) (okFrom p d i O) := by
  intro d
  induction d with
  | zero =>
    intro i O hi hO
    refine Ev.step (fun k => by rw [spec_ahGood.l0]) ?_
    refine EvKit.neg (by omega) ?_
    exact Ev.now _
  | succ d ih =>
    intro i O hi hO
    have hri := hr i (by omega) (by omega)
    refine Ev.step (fun k => by rw [spec_ahGood.l0]) ?_
    refine EvKit.pos (by omega) (EvKit.pos (by omega) (EvKit.pos (by omega) ?_))
    simp only [rd_gt]
    unfold okFrom
    by_cases c : gt p i > i
    · refine EvKit.pos c (EvKit.pos (by omega) (EvKit.pos (by omega) ?_))
      refine Ev.step (fun k => by rw [spec_ahGood.j2]) ?_
      by_cases c2 : gt p (gt p i) = i
      · rw [if_pos ⟨c, c2⟩]
        refine EvKit.pos (by simpa using c2) ?_
        refine EvKit.got rfl (EvKit.pos (by simp; omega) ?_)
        rw [EvKit.wr (by omega) (by omega)]
        exact ih (i + 1) (i :: O) (by omega) (by simp; omega)
      · rw [if_neg (fun q => c2 q.2), if_neg (by omega)]
        refine EvKit.neg (by simpa using c2) (EvKit.neg (by omega) ?_)
        exact Ev.now _
    · rw [if_neg (fun q => c q.1)]
      refine EvKit.neg c ?_
      refine Ev.step (fun k => by rw [spec_ahGood.j2]) ?_
      refine EvKit.neg (by simp) ?_
      by_cases c2 : gt p i < i
      · rw [if_pos c2]
        refine EvKit.pos c2 ?_
        cases O with
        | nil => exact EvKit.neg (by simp) (Ev.now _)
        | cons j O' =>
          refine EvKit.pos (by simp) (EvKit.pos (by simp) ?_)
          have e : rd (j :: O') 0 = j := rfl
          by_cases c3 : j = gt p i
          · simp only [if_pos c3]
            refine EvKit.pos (by rw [← rd_gt, e]; exact c3) (EvKit.pos (by simp; omega) ?_)
            rw [EvKit.wr (by omega) (by omega)]
            exact ih (i + 1) O' (by omega) (by simp at hO; omega)
          · simp only [if_neg c3]
            refine EvKit.neg (by rw [← rd_gt, e]; exact c3) ?_
            exact Ev.now _
      · rw [if_neg c2]
        exact EvKit.neg c2 (Ev.now _)

theorem ahGood_ev (p : List Int) (hp : p.length ≤ 140737488351232) : Ev (fun k => spec_ahGood.f k p) (sysB p) := by
  have hj : Ev (fun k => spec_ahGood.j0 k p true) false := by
    refine Ev.step (fun k => by rw [spec_ahGood.j0]) ?_
    exact EvKit.pos rfl (Ev.now _)
  unfold spec_ahGood.f sysB
  by_cases c1 : (p.length : Int) % 2 = 1
  · refine EvKit.pos c1 ?_
    rw [decide_eq_false (show ¬ p.length % 2 = 0 by omega)]
    simp only [Bool.false_and, Bool.and_false]
    exact hj
  · refine EvKit.neg c1 ?_
    by_cases c2 : (p.length : Int) > 12
    · refine EvKit.pos c2 ?_
      rw [decide_eq_false (show ¬ p.length ≤ 12 by omega)]
      exact hj
    · refine EvKit.neg c2 ?_
      rw [decide_eq_true (show p.length ≤ 12 by omega), decide_eq_true (show p.length % 2 = 0 by omega), Bool.true_and, Bool.true_and]
      have h := l1All_ev p 0 (wrap64 ((p.length : Int) - 1)) hp
      rw [EvKit.wr (by omega) (by omega)] at h
      have e : (p.all fun x => decide (0 ≤ x) && decide (x ≤ (p.length : Int) - 1)) = (p.all fun x => decide (0 ≤ x) && decide (x < (p.length : Int))) := by
        congr 1
        funext x
        congr 1
        rw [decide_eq_decide]
        omega
      rw [e] at h
      rw [EvKit.wr (by omega) (by omega)]
      refine Ev.bind h ?_
      refine Ev.step (fun k => by rw [spec_ahGood.j0]) ?_
      by_cases c3 : (p.all fun x => decide (0 ≤ x) && decide (x < (p.length : Int))) = true
      · rw [c3]
        refine EvKit.neg (by simp) ?_
        rw [Bool.true_and]
        exact ahGood_l0 p (by omega) (range_of_all c3) p.length 0 [] (by omega) (by simp)
      · rw [Bool.eq_false_iff.mpr c3]
        exact EvKit.pos (by simp) (Ev.now _)

/-! ### the program's check -/
theorem isSystem_l2 (p : List Int) (hp : p.length ≤ 140737488351232) (a : Nat) (ha : a < p.length) (hhi : gt p a < p.length) (r : Bool)
    (hnext : (∀ b : Int, a < b → b < gt p a → a ≤ gt p b ∧ gt p b ≤ gt p a) → Ev (fun k => impl_isSystem.l1 k p p p.length (wrap64 ((a : Int) + 1))) r)
    (hbad : ¬ (∀ b : Int, a < b → b < gt p a → a ≤ gt p b ∧ gt p b ≤ gt p a) → r = false) :
    ∀ (d : Nat) (b : Int), a < b → (gt p a - b).toNat = d → (∀ c : Int, a < c → c < b → c < gt p a → a ≤ gt p c ∧ gt p c ≤ gt p a) → Ev (fun k => impl_isSystem.l2 k p a (gt p a) b p p.length a) r := by
  intro d
  induction d with
  | zero =>
    intro b hb hd hall
    refine Ev.step (fun k => by rw [impl_isSystem.l2]) ?_
    refine EvKit.neg (by omega) ?_
    exact hnext (fun c h1 h2 => hall c h1 (by omega) h2)
  | succ d ih =>
    intro b hb hd hall
    refine Ev.step (fun k => by rw [impl_isSystem.l2]) ?_
    refine EvKit.pos (by omega) (EvKit.pos (by omega) (EvKit.pos (by omega) (EvKit.got (in_f _ _ _) ?_)))
    simp only [rd_gt]
    by_cases c : (decide ((a : Int) ≤ gt p b) && decide (gt p b ≤ gt p a)) = true
    · refine EvKit.pos c ?_
      simp only [Bool.and_eq_true, decide_eq_true_eq] at c
      rw [EvKit.wr (by omega) (by omega)]
      refine ih (b + 1) (by omega) (by omega) (fun e h1 h2 h3 => ?_)
      by_cases he : e = b
      · subst he; exact c
      · exact hall e h1 (by omega) h3
    · refine EvKit.neg c ?_
      simp only [Bool.and_eq_true, decide_eq_true_eq] at c
      rw [hbad (fun q => c (q b hb (by omega)))]
      exact Ev.now _

theorem isSystem_l1 (p : List Int) (hp : p.length ≤ 140737488351232) (hhi : ∀ i : Int, 0 ≤ i → i < p.length → gt p i < p.length) (r : Bool)
    (h1 : (∀ a b : Int, 0 ≤ a → a < p.length → a < b → b < gt p a → a ≤ gt p b ∧ gt p b ≤ gt p a) → r = true)
    (h2 : ¬ (∀ a b : Int, 0 ≤ a → a < p.length → a < b → b < gt p a → a ≤ gt p b ∧ gt p b ≤ gt p a) → r = false) :
    ∀ (d i : Nat), i + d = p.length → (∀ a b : Int, 0 ≤ a → a < i → a < b → b < gt p a → a ≤ gt p b ∧ gt p b ≤ gt p a) → Ev (fun k => impl_isSystem.l1 k p p p.length i) r := by
  intro d
  induction d with
  | zero =>
    intro i hi hall
    refine Ev.step (fun k => by rw [impl_isSystem.l1]) ?_
    refine EvKit.neg (by omega) ?_
    rw [h1 (fun a b x0 x1 x2 x3 => hall a b x0 (by omega) x2 x3)]
    exact Ev.now _
  | succ d ih =>
    intro i hi hall
    refine Ev.step (fun k => by rw [impl_isSystem.l1]) ?_
    refine EvKit.pos (by omega) (EvKit.pos (by omega) (EvKit.pos (by omega) ?_))
    simp only [rd_gt]
    rw [EvKit.wr (by omega) (by omega)]
    refine isSystem_l2 p hp i (by omega) (hhi i (by omega) (by omega)) r (fun hok => ?_) (fun hbad => h2 (fun q => hbad (fun b => q i b (by omega) (by omega)))) _ ((i : Int) + 1) (by omega) rfl (fun c h3 h4 => by omega)
    rw [EvKit.wr (by omega) (by omega)]
    refine ih (i + 1) (by omega) (fun a b x0 x1 x2 x3 => ?_)
    by_cases e : a = i
    · subst e; exact hok b x2 x3
    · exact hall a b x0 (by omega) x2 x3

/-- What the first loop of the program's check holds. -/
def Inv1 (p : List Int) (n : Int) : Prop := ∀ i : Int, 0 ≤ i → i < n → 0 ≤ gt p i ∧ gt p i < p.length ∧ gt p i ≠ i ∧ gt p (gt p i) = i

theorem isSystem_l0 (p : List Int) (hp : p.length ≤ 140737488351232) (r : Bool) (h1 : ArcS p → r = true) (h2 : ¬ ArcS p → r = false) : ∀ (d i : Nat), i + d = p.length → Inv1 p i → Ev (fun k => impl_isSystem.l0 k p p p.length i) r := by
  intro d
  induction d with
  | zero =>
    intro i hi hI
    have hi' : i = p.length := by omega
    subst hi'
    refine Ev.step (fun k => by rw [impl_isSystem.l0]) ?_
    refine EvKit.neg (by omega) ?_
    refine isSystem_l1 p hp (fun i h0 h1 => (hI i h0 h1).2.1) r (fun hc => ?_) (fun hc => ?_) p.length 0 (by omega) (fun a b x0 x1 => by omega)
    · exact h1 ⟨fun i a b => (hI i a b).1, fun i a b => (hI i a b).2.1, fun i a b => (hI i a b).2.2.1, fun i a b => (hI i a b).2.2.2, hc⟩
    · exact h2 (fun s => hc s.cr)
  | succ d ih =>
    intro i hi hI
    refine Ev.step (fun k => by rw [impl_isSystem.l0]) ?_
    refine EvKit.pos (by omega) (EvKit.pos (by omega) (EvKit.pos (by omega) (EvKit.got (in_f _ _ _) ?_)))
    simp only [rd_gt]
    rw [EvKit.wr (by omega) (by omega)]
    by_cases c : (decide (0 ≤ gt p i) && decide (gt p i ≤ (p.length : Int) - 1)) = true
    · refine EvKit.pos c ?_
      simp only [Bool.and_eq_true, decide_eq_true_eq] at c
      by_cases c2 : gt p i = i
      · refine EvKit.pos c2 ?_
        rw [h2 (fun s => s.ne i (by omega) (by omega) c2)]
        exact Ev.now _
      · refine EvKit.neg c2 (EvKit.pos c.1 (EvKit.pos (by omega) ?_))
        by_cases c3 : gt p (gt p i) = i
        · refine EvKit.pos c3 ?_
          rw [EvKit.wr (by omega) (by omega)]
          refine ih (i + 1) (by omega) (fun j h3 h4 => ?_)
          by_cases e : j = i
          · subst e; exact ⟨c.1, by omega, c2, c3⟩
          · exact hI j h3 (by omega)
        · refine EvKit.neg c3 ?_
          rw [h2 (fun s => c3 (s.inv i (by omega) (by omega)))]
          exact Ev.now _
    · refine EvKit.neg c ?_
      simp only [Bool.and_eq_true, decide_eq_true_eq] at c
      rw [h2 (fun s => c ⟨s.lo i (by omega) (by omega), by have := s.hi i (by omega) (by omega); omega⟩)]
      exact Ev.now _

theorem IsSystem_ev (p : List Int) (hp : p.length ≤ 140737488351232) : Ev (fun k => impl_IsSystem.f k p) (sysB p) := by
  unfold impl_IsSystem.f
  by_cases c : (p.length : Int) ≤ 12
  · refine EvKit.pos c ?_
    have h : Ev (fun k => impl_isSystem.f k p) (sysB p) := by
      unfold impl_isSystem.f
      refine isSystem_l0 p hp (sysB p) (fun s => (sysB_iff p).2 ⟨by omega, s⟩) (fun s => ?_) p.length 0 (by omega) (fun i h0 h1 => by omega)
      rw [Bool.eq_false_iff]
      intro q
      exact s ((sysB_iff p).1 q).2
    exact Ev.bind h (Ev.now _)
  · refine EvKit.neg c ?_
    unfold sysB
    rw [decide_eq_false (show ¬ p.length ≤ 12 by omega)]
    exact Ev.now _

end Go.Proofs.Ytbckijeffiofdaa.Sys
