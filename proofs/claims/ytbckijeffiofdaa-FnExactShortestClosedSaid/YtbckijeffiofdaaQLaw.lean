import Derived.Test.YtbckijeffiofdaaQKit
import Derived.Test.YtbckijeffiofdaaQArch
import Derived.Test.YtbckijeffiofdaaF25
import Derived.Test.YtbckijeffiofdaaF23
import Derived.Test.YtbckijeffiofdaaF21
/- What the laws' own small functions come to: copies, comparisons, sizes. -/
namespace Go.Proofs.Ytbckijeffiofdaa.LawKit
open Go.RowKit Go.Proofs.YtbckijeffiofdaaW.PrintWords Go.Proofs.Ytbckijeffiofdaa Go.Proofs.Ytbckijeffiofdaa.Arch Go.Proofs.Ytbckijeffiofdaa.P

theorem rd_gt (p : List Int) (i : Int) : rd p i = gt p i := rfl
theorem drop_gt (p : List Int) (i : Nat) (h : i < p.length) : p.drop i = gt p i :: p.drop (i + 1) := by
  rw [List.drop_eq_getElem_cons h]
  congr 1
  unfold gt
  rw [List.getD_eq_getElem?_getD, Int.toNat_natCast, List.getElem?_eq_getElem h]; rfl

theorem eqIntS_ev (a b : List Int) (ha : a.length ≤ 140737488351232) : Ev (fun k => laws_eqIntS.f k a b) (decide (a = b)) := by
  unfold laws_eqIntS.f
  by_cases c : (a.length : Int) = (b.length : Int)
  · refine EvKit.pos c ?_
    have key : ∀ (d i : Nat), i + d = a.length → Ev (fun k => laws_eqIntS.l0 k a b i) (decide (a.drop i = b.drop i)) := by
      intro d
      induction d with
      | zero =>
        intro i hi
        refine Ev.step (fun k => by rw [laws_eqIntS.l0]) ?_
        refine EvKit.neg (by omega) ?_
        rw [List.drop_of_length_le (by omega), List.drop_of_length_le (by omega)]
        exact Ev.now _
      | succ d ih =>
        intro i hi
        refine Ev.step (fun k => by rw [laws_eqIntS.l0]) ?_
        refine EvKit.pos (by omega) (EvKit.pos (by omega) (EvKit.pos (by omega) ?_))
        rw [drop_gt a i (by omega), drop_gt b i (by omega)]
        by_cases e : rd a i = rd b i
        · refine EvKit.pos e ?_
          rw [EvKit.wr (by omega) (by omega)]
          have := ih (i + 1) (by omega)
          rw [rd_gt, rd_gt] at e
          have e2 : decide (gt a i :: a.drop (i + 1) = gt b i :: b.drop (i + 1)) = decide (a.drop (i + 1) = b.drop (i + 1)) := by
            rw [decide_eq_decide, e]; simp
          rw [e2]
          exact this
        · refine EvKit.neg e ?_
          rw [rd_gt, rd_gt] at e
          rw [decide_eq_false (fun h => e (List.cons.inj h).1)]
          exact Ev.now _
    have := key a.length 0 (by omega)
    simpa using this
  · refine EvKit.neg c ?_
    rw [decide_eq_false (fun h => c (by rw [h]))]
    exact Ev.now _

theorem eqMeander_ev (a b c d : List Int) (ha : a.length ≤ 140737488351232) (hb : b.length ≤ 140737488351232) : Ev (fun k => laws_eqMeander.f k a b c d) (decide (a = c) && decide (b = d)) := by
  unfold laws_eqMeander.f
  refine Ev.bind (eqIntS_ev a c ha) ?_
  by_cases h : a = c
  · rw [decide_eq_true h]
    refine EvKit.pos rfl (Ev.bind (eqIntS_ev b d hb) ?_)
    by_cases h2 : b = d
    · rw [decide_eq_true h2]; exact EvKit.pos rfl (Ev.now _)
    · rw [decide_eq_false h2]; exact EvKit.neg (by simp) (Ev.now _)
  · rw [decide_eq_false h]
    exact EvKit.neg (by simp) (Ev.now _)

theorem set_take (l : List Int) (i : Nat) (x : List Int) (hi : i < l.length) (hx : x.length = l.length) (ht : x.take i = l.take i) : (x.set i (gt l i)).take (i + 1) = l.take (i + 1) := by
  apply List.ext_getElem
  · simp; omega
  · intro j h1 h2
    simp only [List.length_take, List.length_set] at h1 h2
    rw [List.getElem_take, List.getElem_take, List.getElem_set]
    by_cases e : i = j
    · subst e
      rw [if_pos rfl]
      unfold gt
      rw [List.getD_eq_getElem?_getD, Int.toNat_natCast, List.getElem?_eq_getElem hi]; rfl
    · rw [if_neg e]
      have := congrArg (fun z => z[j]?) ht
      simp only [List.getElem?_take] at this
      rw [if_pos (by omega), if_pos (by omega), List.getElem?_eq_getElem (by omega), List.getElem?_eq_getElem (by omega)] at this
      exact Option.some.inj this

theorem toIntS_ev (l : List Int) (hl : l.length ≤ 35184372088832) : Ev (fun k => laws_toIntS.f k l) l := by
  unfold laws_toIntS.f
  refine EvKit.pos (by omega) (EvKit.pos (by simpa using hl) ?_)
  have key : ∀ (d i : Nat) (x : List Int), i + d = l.length → x.length = l.length → x.take i = l.take i → Ev (fun k => laws_toIntS.l0 k l x i) l := by
    intro d
    induction d with
    | zero =>
      intro i x hi hx ht
      refine Ev.step (fun k => by rw [laws_toIntS.l0]) ?_
      refine EvKit.neg (by omega) ?_
      rw [List.take_of_length_le (by omega), List.take_of_length_le (by omega)] at ht
      rw [ht]
      exact Ev.now _
    | succ d ih =>
      intro i x hi hx ht
      refine Ev.step (fun k => by rw [laws_toIntS.l0]) ?_
      refine EvKit.pos (by omega) (EvKit.pos (by omega) (EvKit.pos (by omega) ?_))
      rw [EvKit.wr (by omega) (by omega), rd_gt, Int.toNat_natCast]
      exact ih (i + 1) _ (by omega) (by simp [hx]) (set_take l i x (by omega) hx ht)
  have := key l.length 0 (List.replicate l.length 0) (by omega) (by simp) (by simp)
  simpa using this

theorem toMeander_ev (a b : List Int) (ha : a.length ≤ 35184372088832) (hb : b.length ≤ 35184372088832) : Ev (fun k => laws_toMeander.f k a b) (a, b) := by
  unfold laws_toMeander.f
  exact Ev.bind (toIntS_ev a ha) (Ev.bind (toIntS_ev b hb) (Ev.now _))

theorem szIntS_f (l : List Int) (n : Int) (hl : l.length ≤ maxLen) (h0 : 0 ≤ n) (h1 : n ≤ 1048576) : laws_szIntS.f l n = some (if (l.length : Int) ≤ n then n - l.length else -1) := by
  unfold laws_szIntS.f maxLen at *
  rw [EvKit.wr (by omega) (by omega)]
  by_cases c : (l.length : Int) ≤ n
  · rw [if_neg (by omega), if_pos c]
  · rw [if_pos (by omega), if_neg c]

theorem szMeander_f (a b : List Int) (n : Int) (ha : a.length ≤ maxLen) (hb : b.length ≤ maxLen) (h0 : 0 ≤ n) (h1 : n ≤ 1048576) : laws_szMeander.f a b n = some (if (a.length : Int) + b.length ≤ n then n - a.length - b.length else -1) := by
  unfold laws_szMeander.f
  rw [szIntS_f a n ha h0 h1]
  simp only [Option.bind_some]
  by_cases c : (a.length : Int) ≤ n
  · rw [if_pos c, if_neg (by omega), szIntS_f b _ hb (by omega) (by omega)]
    simp only [Option.bind_some]
    by_cases c2 : (a.length : Int) + b.length ≤ n
    · rw [if_pos (show (b.length : Int) ≤ n - a.length by omega), if_pos c2, if_neg (by omega)]
    · rw [if_neg (show ¬ (b.length : Int) ≤ n - a.length by omega), if_neg c2, if_pos (by omega)]
  · rw [if_neg c, if_pos (by omega), if_neg (by omega)]

end Go.Proofs.Ytbckijeffiofdaa.LawKit
