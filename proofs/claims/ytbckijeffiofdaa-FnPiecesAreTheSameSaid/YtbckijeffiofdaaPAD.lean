/- Components are counted by their least points; they add up over what is inside and outside. No condition. -/
import Derived.Test.YtbckijeffiofdaaPBK
import Derived.Test.YtbckijeffiofdaaFB12
import Derived.Test.YtbckijeffiofdaaG1
import Derived.Test.YtbckijeffiofdaaG2
import Derived.Test.YtbckijeffiofdaaG3
import Derived.Test.YtbckijeffiofdaaG4
import Derived.Test.YtbckijeffiofdaaG5
import Derived.Test.YtbckijeffiofdaaG6
import Derived.Test.YtbckijeffiofdaaG7
import Derived.Test.YtbckijeffiofdaaG8
import Derived.Test.YtbckijeffiofdaaG9
import Derived.Test.YtbckijeffiofdaaG10
import Derived.Test.YtbckijeffiofdaaG11
import Derived.Test.YtbckijeffiofdaaG12
import Derived.Test.YtbckijeffiofdaaG13
import Derived.Test.YtbckijeffiofdaaG14
import Derived.Test.YtbckijeffiofdaaG15
import Derived.Test.YtbckijeffiofdaaG16
import Derived.Test.YtbckijeffiofdaaG17
import Derived.Test.YtbckijeffiofdaaG18
import Derived.Test.YtbckijeffiofdaaG19
import Derived.KernelRfl
namespace Go.Proofs.Ytbckijeffiofdaa.AL
open Go Go.Proofs.Ytbckijeffiofdaa.Arch
set_option linter.unusedVariables false
set_option linter.unusedSimpArgs false
set_option maxRecDepth 100000
inductive Reach (p q : List Int) (i : Nat) : Nat → Prop
  | refl : Reach p q i i
  | top {j : Nat} : Reach p q i j → Reach p q i (gat 0 p (j : Int)).toNat
  | bot {j : Nat} : Reach p q i j → Reach p q i (gat 0 q (j : Int)).toNat
section
variable {p q : List Int} {i j : Nat}
theorem two_p (h : Two p q) {x : Nat} (hx : x < p.length) : 0 ≤ gat 0 p (x : Int) ∧ (gat 0 p (x : Int)).toNat < p.length ∧ (gat 0 p (((gat 0 p (x : Int)).toNat : Nat) : Int)).toNat = x := by
  have a := ArcS.lo' h.sp x (by omega) (by omega)
  have b := ArcS.hi' h.sp x (by omega) (by omega)
  have c := ArcS.inv' h.sp x (by omega) (by omega)
  refine ⟨a, by omega, ?_⟩
  rw [show (((gat 0 p (x : Int)).toNat : Nat) : Int) = gat 0 p (x : Int) by omega, c]
  omega
theorem two_q (h : Two p q) {x : Nat} (hx : x < p.length) : 0 ≤ gat 0 q (x : Int) ∧ (gat 0 q (x : Int)).toNat < p.length ∧ (gat 0 q (((gat 0 q (x : Int)).toNat : Nat) : Int)).toNat = x := by
  have l := h.len
  have a := ArcS.lo' h.sq x (by omega) (by omega)
  have b := ArcS.hi' h.sq x (by omega) (by omega)
  have c := ArcS.inv' h.sq x (by omega) (by omega)
  refine ⟨a, by omega, ?_⟩
  rw [show (((gat 0 q (x : Int)).toNat : Nat) : Int) = gat 0 q (x : Int) by omega, c]
  omega
theorem Reach.lt (h : Two p q) (hi : i < p.length) (r : Reach p q i j) : j < p.length := by
  induction r with
  | refl => exact hi
  | top _ ih => exact (two_p h ih).2.1
  | bot _ ih => exact (two_q h ih).2.1
theorem Reach.trans {k : Nat} (r : Reach p q i j) (s : Reach p q j k) : Reach p q i k := by
  induction s with
  | refl => exact r
  | top _ ih => exact ih.top
  | bot _ ih => exact ih.bot
theorem Reach.symm (h : Two p q) (hi : i < p.length) (r : Reach p q i j) : Reach p q j i := by
  induction r with
  | refl => exact .refl
  | @top j r ih =>
    have hj := r.lt h hi
    have s : Reach p q (gat 0 p (j : Int)).toNat j := by
      have := Reach.top (q := q) (.refl : Reach p q (gat 0 p (j : Int)).toNat _)
      rwa [(two_p h hj).2.2] at this
    exact s.trans ih
  | @bot j r ih =>
    have hj := r.lt h hi
    have s : Reach p q (gat 0 q (j : Int)).toNat j := by
      have := Reach.bot (p := p) (.refl : Reach p q (gat 0 q (j : Int)).toNat _)
      rwa [(two_q h hj).2.2] at this
    exact s.trans ih
theorem iter_reach (h : Two p q) (hi : i < p.length) : ∀ k, Reach p q i (iter p q k (i : Int)).toNat
  | 0 => by show Reach p q i ((i : Int)).toNat; exact .refl
  | k + 1 => by
    have a := h.iter_in (i := (i : Int)) (by omega) (by omega) k
    have r := iter_reach h hi k
    have r2 := r.top.bot
    have e : (((iter p q k (i : Int)).toNat : Nat) : Int) = iter p q k (i : Int) := by omega
    rw [e] at r2
    have b := h.in1 a.1 a.2
    have e2 : (((gat 0 p (iter p q k (i : Int))).toNat : Nat) : Int) = gat 0 p (iter p q k (i : Int)) := by have b1 : 0 ≤ gat 0 p (iter p q k (i : Int)) := b.1; omega
    rw [e2] at r2
    exact r2
theorem way_mem {x : Int} : x ∈ wayL p q (i : Int) ↔ ∃ k, k < per p q (i : Int) ∧ (x = iter p q k (i : Int) ∨ x = gat 0 p (iter p q k (i : Int))) := by
  unfold wayL wayTo
  simp only [List.mem_flatMap, List.mem_range, List.mem_cons, List.not_mem_nil, or_false]
theorem way_reach (h : Two p q) (hi : i < p.length) {x : Nat} : ((x : Nat) : Int) ∈ wayL p q (i : Int) ↔ Reach p q i x := by
  have ps := h.per_spec (i := (i : Int)) (by omega) (by omega)
  constructor
  · intro hx
    obtain ⟨k, hk, e | e⟩ := way_mem.1 hx
    · have := iter_reach h hi k
      rw [← e] at this
      exact this
    · have a := h.iter_in (i := (i : Int)) (by omega) (by omega) k
      have := (iter_reach h hi k).top
      rw [show (((iter p q k (i : Int)).toNat : Nat) : Int) = iter p q k (i : Int) by omega, ← e] at this
      exact this
  · intro r
    induction r with
    | refl => exact way_mem.2 ⟨0, ps.1, .inl rfl⟩
    | @top j r ih =>
      have hj := r.lt h hi
      obtain ⟨a, b, c⟩ := two_p h hj
      obtain ⟨k, hk, e | e⟩ := way_mem.1 ih
      · exact way_mem.2 ⟨k, hk, .inr (by rw [← e]; omega)⟩
      · have d := h.iter_in (i := (i : Int)) (by omega) (by omega) k
        refine way_mem.2 ⟨k, hk, .inl ?_⟩
        have := ArcS.inv' h.sp (iter p q k (i : Int)) d.1 d.2
        rw [← e] at this
        omega
    | @bot j r ih =>
      have hj := r.lt h hi
      obtain ⟨a, b, c⟩ := two_q h hj
      have l := h.len
      obtain ⟨k, hk, e | e⟩ := way_mem.1 ih
      · have key : ∃ k2, k2 < per p q (i : Int) ∧ iter p q k (i : Int) = gat 0 q (gat 0 p (iter p q k2 (i : Int))) := by
          cases k with
          | zero => exact ⟨per p q (i : Int) - 1, by omega, by
              have := ps.2.2.1
              rw [show per p q (i : Int) = (per p q (i : Int) - 1) + 1 by omega] at this
              exact this.symm⟩
          | succ k => exact ⟨k, by omega, rfl⟩
        obtain ⟨k2, hk2, e2⟩ := key
        have d := h.iter_in (i := (i : Int)) (by omega) (by omega) k2
        have f := h.in1 d.1 d.2
        have := ArcS.inv' h.sq (gat 0 p (iter p q k2 (i : Int))) f.1 (by have := f.2.1; show gt p _ < _; omega)
        rw [← e2, ← e] at this
        exact way_mem.2 ⟨k2, hk2, .inr (by omega)⟩
      · have e2 : gat 0 q (j : Int) = iter p q (k + 1) (i : Int) := by rw [e]; rfl
        by_cases c2 : k + 1 < per p q (i : Int)
        · exact way_mem.2 ⟨k + 1, c2, .inl (by rw [← e2]; omega)⟩
        · have c3 : k + 1 = per p q (i : Int) := by omega
          rw [c3, ps.2.2.1] at e2
          exact way_mem.2 ⟨0, ps.1, .inl (by show _ = (i : Int); omega)⟩
def leastB (p q : List Int) (i : Nat) : Bool := (wayL p q (i : Int)).all fun x => decide ((i : Int) ≤ x)
theorem least_iff (h : Two p q) (hi : i < p.length) : leastB p q i = true ↔ ∀ x, Reach p q i x → i ≤ x := by
  unfold leastB
  rw [List.all_eq_true]
  constructor
  · intro a x r
    have := a _ ((way_reach h hi).2 r)
    simp at this
    exact this
  · intro a x hx
    have w := h.way_in (i := (i : Int)) (by omega) (by omega) x hx
    have := a x.toNat ((way_reach h hi).1 (by rw [show ((x.toNat : Nat) : Int) = x by omega]; exact hx))
    simp
    omega
def compN (p q : List Int) : Nat := ((List.range p.length).filter fun i => leastB p q i).length
variable {fu : Nat}
theorem way_L (h : Two p q) (hl : p.length ≤ 1000) (hi : i < p.length) : ∀ (d k m : Nat), k + d + 1 = per p q (i : Int) → d < m →
    F_impl_Meander_way_L1 fu (i : Int) p q m (wayTo p q (i : Int) k) (iter p q k (i : Int)) = some (.ret (wayL p q (i : Int))) := by
  have ps := h.per_spec (i := (i : Int)) (by omega) (by omega)
  intro d
  induction d with
  | zero =>
    intro k m hk hm
    cases m with
    | zero => omega
    | succ m =>
      have a := h.iter_in (i := (i : Int)) (by omega) (by omega) k
      have b := h.in1 a.1 a.2
      have l := h.len
      simp only [F_impl_Meander_way_L1]
      rw [gd_t (inL_mk a.1 (by omega)), gd_t (by rw [wayTo_len]; show 2 * k + 2 ≤ _; omega), gd_t (inL_mk b.1 (by have := b.2.1; show gt p _ < _; omega)), ieq_t (show gat 0 q (gat 0 p (iter p q k (i : Int))) = i by
        have := ps.2.2.1
        rw [← hk] at this
        exact this), cond_true]
      unfold wayL
      rw [← hk, Nat.add_zero, wayTo_succ]
      rfl
  | succ d ih =>
    intro k m hk hm
    cases m with
    | zero => omega
    | succ m =>
      have a := h.iter_in (i := (i : Int)) (by omega) (by omega) k
      have b := h.in1 a.1 a.2
      have l := h.len
      simp only [F_impl_Meander_way_L1]
      rw [gd_t (inL_mk a.1 (by omega)), gd_t (by rw [wayTo_len]; show 2 * k + 2 ≤ _; omega), gd_t (inL_mk b.1 (by have := b.2.1; show gt p _ < _; omega)), ieq_f (show gat 0 q (gat 0 p (iter p q k (i : Int))) ≠ i from ps.2.2.2 (k + 1) (by omega) (by omega)), cond_false]
      have := ih (k + 1) m (by omega) (by omega)
      rw [wayTo_succ] at this
      exact this
theorem way_eq (h : Two p q) (hl : p.length ≤ 1000) (hf : 2000 < fu) (hi : i < p.length) : F_impl_Meander_way fu p q (i : Int) = some (wayL p q (i : Int)) := by
  have ps := h.per_spec (i := (i : Int)) (by omega) (by omega)
  have := way_L (fu := fu) h hl hi (per p q (i : Int) - 1) 0 fu (by omega) (by omega)
  unfold F_impl_Meander_way
  have e : F_impl_Meander_way_L1 fu (i : Int) p q fu (@List.nil Int) (i : Int) = some (.ret (wayL p q (i : Int))) := this
  rw [e]
  rfl
theorem paint_L {w : List Int} {c y1 : Int} {n : Int} (hw : w.length ≤ 3000) : ∀ (d y m : Nat) (l : List Int), y + d = w.length → d < m → (∀ x ∈ w, 0 ≤ x ∧ x < l.length) →
    ∃ l', F_impl_Meander_curves_L2 fu p q c n y1 w (w.length : Int) m l (y : Int) = some (l', (w.length : Int)) ∧ l'.length = l.length ∧ (∀ x, x ∈ w.drop y → gat 0 l' x = c) ∧ ∀ x : Int, 0 ≤ x → x ∉ w.drop y → gat 0 l' x = gat 0 l x := by
  intro d
  induction d with
  | zero =>
    intro y m l hy hm hx
    cases m with
    | zero => omega
    | succ m =>
      simp only [F_impl_Meander_curves_L2]
      rw [ilt_f (by omega), cond_false, List.drop_eq_nil_of_le (by omega)]
      exact ⟨l, by rw [show (y : Int) = (w.length : Int) by omega], rfl, fun x hx => (by cases hx), fun x _ _ => rfl⟩
  | succ d ih =>
    intro y m l hy hm hx
    cases m with
    | zero => omega
    | succ m =>
      have hy' : y < w.length := by omega
      have hw0 := hx _ (List.getElem_mem hy')
      simp only [F_impl_Meander_curves_L2]
      rw [ilt_t (by omega), cond_true, gd_t (inL_nat hy'), gat_nat hy', gd_t (inL_mk hw0.1 hw0.2), iadd_id (by omega) (by omega), show (y : Int) + 1 = ((y + 1 : Nat) : Int) by omega]
      obtain ⟨l', e, n1, a, b⟩ := ih (y + 1) m (lset l w[y] c) (by omega) (by omega) (fun x hx' => by simp only [lset, List.length_set]; exact hx x hx')
      have sg (x : Int) : gat 0 (lset l w[y] c) x = if x.toNat = (w[y]).toNat then c else gat 0 l x := by
        simp only [gat_eq, lset, List.getD_eq_getElem?_getD, List.getElem?_set]
        by_cases e : (w[y]).toNat = x.toNat
        · rw [if_pos e, if_pos e.symm, if_pos (by omega)]
          rfl
        · rw [if_neg e, if_neg (fun h => e h.symm)]
      refine ⟨l', e, by rw [n1]; simp [lset], fun x hx' => ?_, fun x h0 hx' => ?_⟩
      · rw [List.drop_eq_getElem_cons hy'] at hx'
        by_cases c1 : x ∈ w.drop (y + 1)
        · exact a x c1
        · have h0 := (hx x (List.mem_of_mem_drop (show x ∈ w.drop y by rw [List.drop_eq_getElem_cons hy']; exact hx'))).1
          rw [b x h0 c1, sg]
          rcases List.mem_cons.1 hx' with rfl | h
          · rw [if_pos rfl]
          · exact absurd h c1
      · rw [List.drop_eq_getElem_cons hy', List.mem_cons, not_or] at hx'
        rw [b x h0 hx'.2, sg, if_neg (fun e2 => hx'.1 (by omega))]
def Seen (p q : List Int) (y x : Nat) : Prop := ∃ j, j < y ∧ Reach p q j x
theorem seen_at (h : Two p q) {y : Nat} (hy : y < p.length) : Seen p q y y ↔ leastB p q y = false := by
  rw [← Bool.not_eq_true, least_iff h hy]
  constructor
  · rintro ⟨j, hj, r⟩ a
    have := a j (r.symm h (by omega))
    omega
  · intro a
    refine Classical.byContradiction fun hn => a fun x r => Classical.byContradiction fun hx => hn ⟨x, by omega, r.symm h hy⟩
theorem compTo_succ {y : Nat} : ((List.range (y + 1)).filter fun i => leastB p q i).length = ((List.range y).filter fun i => leastB p q i).length + if leastB p q y then 1 else 0 := by
  rw [List.range_succ, List.filter_append, List.length_append]
  congr 1
  cases h : leastB p q y <;> simp [h]
theorem cur_L (h : Two p q) (hl : p.length ≤ 1000) (hf : 5000 < fu) : ∀ (d y m : Nat) (l : List Int), y + d = p.length → d < m → l.length = p.length →
    (∀ x, x < p.length → (0 ≤ gat 0 l (x : Int) ↔ Seen p q y x)) →
    ∃ l' e, F_impl_Meander_curves_L1 fu p q (p.length : Int) m l (((List.range y).filter fun i => leastB p q i).length : Int) (y : Int) = some (l', ((compN p q : Nat) : Int), e) := by
  intro d
  induction d with
  | zero =>
    intro y m l hy hm hn hx
    cases m with
    | zero => omega
    | succ m =>
      have : y = p.length := by omega
      subst this
      simp only [F_impl_Meander_curves_L1]
      rw [ilt_f (by omega), cond_false]
      exact ⟨_, _, rfl⟩
  | succ d ih =>
    intro y m l hy hm hn hx
    cases m with
    | zero => omega
    | succ m =>
      have hy' : y < p.length := by omega
      have hc : ((List.range y).filter fun i => leastB p q i).length ≤ y := by
        have := List.length_filter_le (fun i => leastB p q i) (List.range y)
        simpa using this
      have hs := compTo_succ (p := p) (q := q) (y := y)
      simp only [F_impl_Meander_curves_L1]
      rw [ilt_t (by omega), cond_true, gd_t (inL_nat (by omega)), iadd_id (a := (y : Int)) (by omega) (by omega), show (y : Int) + 1 = ((y + 1 : Nat) : Int) by omega]
      cases hb : leastB p q y
      · have sy := (seen_at h hy').2 hb
        rw [ile_t ((hx y hy').2 sy), cond_true]
        rw [hb, if_neg (by simp)] at hs
        rw [← hs.trans (Nat.add_zero _)]
        refine ih (y + 1) m l (by omega) (by omega) hn (fun x hx' => ?_)
        rw [hx x hx']
        constructor
        · rintro ⟨j, hj, r⟩
          exact ⟨j, by omega, r⟩
        · rintro ⟨j, hj, r⟩
          by_cases c : j = y
          · subst c
            obtain ⟨j2, h2, r2⟩ := sy
            exact ⟨j2, h2, r2.trans r⟩
          · exact ⟨j, by omega, r⟩
      · have ny : ¬ 0 ≤ gat 0 l (y : Int) := fun hh => by
          have := (seen_at h hy').1 ((hx y hy').1 hh)
          rw [hb] at this
          cases this
        have ps := h.per_spec (i := (y : Int)) (by omega) (by omega)
        have wl : (wayL p q (y : Int)).length ≤ 3000 := by unfold wayL; rw [wayTo_len]; omega
        have win : ∀ x ∈ wayL p q (y : Int), 0 ≤ x ∧ x < l.length := fun x hx => by
          have := h.way_in (i := (y : Int)) (by omega) (by omega) x hx
          omega
        obtain ⟨l', e, n1, a, b⟩ := paint_L (fu := fu) (p := p) (q := q) (c := (((List.range y).filter fun i => leastB p q i).length : Int)) (y1 := (y : Int)) (n := (p.length : Int)) wl (wayL p q (y : Int)).length 0 fu l (by omega) (by omega) win
        rw [Int.natCast_zero] at e
        rw [List.drop_zero] at a b
        rw [ile_f ny, cond_false, way_eq h hl (by omega) hy', bd_of]
        simp only [llen]
        rw [e, bd_of, iadd_id (by omega) (by omega)]
        rw [hb, if_pos rfl] at hs
        rw [show (((List.range y).filter fun i => leastB p q i).length : Int) + 1 = (((List.range (y + 1)).filter fun i => leastB p q i).length : Int) by omega]
        refine ih (y + 1) m l' (by omega) (by omega) (by omega) (fun x hx' => ?_)
        by_cases c : Reach p q y x
        · have := a (x : Int) ((way_reach h hy').2 c)
          rw [this]
          exact ⟨fun _ => ⟨y, by omega, c⟩, fun _ => by omega⟩
        · rw [b (x : Int) (by omega) (fun hm => c ((way_reach h hy').1 hm)), hx x hx']
          constructor
          · rintro ⟨j, hj, r⟩
            exact ⟨j, by omega, r⟩
          · rintro ⟨j, hj, r⟩
            by_cases c2 : j = y
            · subst c2
              exact absurd r c
            · exact ⟨j, by omega, r⟩
def negs (n : Nat) : Bool := match F_slices_Repeat_Sint 2000000 [(-1)] (n : Int) with
  | some l => decide (l = List.replicate n (-1))
  | none => false
theorem negs_all : (List.range 15).all negs = true := by kernel_rfl
theorem comp_eq (h : Two p q) (hl : p.length ≤ 14) : F_impl_Meander_components 2000000 p q = some ((compN p q : Nat) : Int) := by
  have hr : F_slices_Repeat_Sint 2000000 [(-1)] (llen p) = some (List.replicate p.length (-1)) := by
    have := List.all_eq_true.1 negs_all p.length (List.mem_range.2 (by omega))
    unfold negs at this
    show F_slices_Repeat_Sint 2000000 [(-1)] (p.length : Int) = _
    cases hh : F_slices_Repeat_Sint 2000000 [(-1)] (p.length : Int) with
    | none => rw [hh] at this; cases this
    | some l => rw [hh] at this; simpa using this
  unfold F_impl_Meander_components F_impl_Meander_curves
  rw [hr, bd_of]
  obtain ⟨l', e, c⟩ := cur_L (fu := 2000000) h (by omega) (by omega) p.length 0 2000000 (List.replicate p.length (-1)) (by omega) (by omega) (by simp) (fun x hx => by
    constructor
    · intro hh
      rw [gat_nat (by simp; exact hx)] at hh
      simp at hh
    · rintro ⟨j, hj, _⟩
      omega)
  simp only [llen, List.length_replicate]
  have c2 : F_impl_Meander_curves_L1 2000000 p q (p.length : Int) 2000000 (List.replicate p.length (-1)) 0 0 = some (l', ((compN p q : Nat) : Int), e) := c
  rw [c2]
  rfl
theorem reach_map {p' q' : List Int} {f : Nat → Nat} (h' : Two p' q') (fp : ∀ w, w < p'.length → (gat 0 p ((f w : Nat) : Int)).toNat = f (gat 0 p' (w : Int)).toNat) (fq : ∀ w, w < p'.length → (gat 0 q ((f w : Nat) : Int)).toNat = f (gat 0 q' (w : Int)).toNat) {z : Nat} (hz : z < p'.length) :
    (∀ w, Reach p' q' z w → Reach p q (f z) (f w)) ∧ ∀ x, Reach p q (f z) x → ∃ w, x = f w ∧ Reach p' q' z w := by
  constructor
  · intro w r
    induction r with
    | refl => exact .refl
    | @top j r ih =>
      have := ih.top
      rwa [fp j (r.lt h' hz)] at this
    | @bot j r ih =>
      have := ih.bot
      rwa [fq j (r.lt h' hz)] at this
  · intro x r
    induction r with
    | refl => exact ⟨z, rfl, .refl⟩
    | top _ ih =>
      obtain ⟨w, rfl, r⟩ := ih
      exact ⟨_, fp w (r.lt h' hz), r.top⟩
    | bot _ ih =>
      obtain ⟨w, rfl, r⟩ := ih
      exact ⟨_, fq w (r.lt h' hz), r.bot⟩
theorem least_map {p' q' : List Int} {f : Nat → Nat} (h : Two p q) (h' : Two p' q') (fl : ∀ w, w < p'.length → f w < p.length) (fm : ∀ a b, a ≤ b ↔ f a ≤ f b) (fp : ∀ w, w < p'.length → (gat 0 p ((f w : Nat) : Int)).toNat = f (gat 0 p' (w : Int)).toNat) (fq : ∀ w, w < p'.length → (gat 0 q ((f w : Nat) : Int)).toNat = f (gat 0 q' (w : Int)).toNat) {z : Nat} (hz : z < p'.length) :
    leastB p q (f z) = leastB p' q' z := by
  rw [Bool.eq_iff_iff, least_iff h (fl z hz), least_iff h' hz]
  obtain ⟨r1, r2⟩ := reach_map h' fp fq hz
  constructor
  · intro a w r
    exact (fm z w).2 (a _ (r1 w r))
  · intro a x r
    obtain ⟨w, rfl, s⟩ := r2 x r
    exact (fm z w).1 (a w s)
theorem comp_add {I J : Nat} (h : Two p q) (hIJ : I ≤ J) (hJ : J < p.length) (hs : Shut p I J) (ht : Shut q I J) : compN (innL p I J) (innL q I J) + compN (outL p I J) (outL q I J) = compN p q := by
  have hl := h.len
  have i1 : (innL p I J).length = J + 1 - I := innL_len hIJ
  have i2 : (innL q I J).length = J + 1 - I := innL_len hIJ
  have o1 := outL_len hIJ hJ
  have o2 : (outL q I J).length = q.length - (J + 1 - I) := outL_len hIJ (by omega)
  have hi : Two (innL p I J) (innL q I J) := ⟨arc_inn hIJ hJ hs h.sp, arc_inn hIJ (by omega) ht h.sq, by omega⟩
  have ho : Two (outL p I J) (outL q I J) := ⟨arc_out hIJ hJ hs h.sp, arc_out hIJ (by omega) ht h.sq, by omega⟩
  have ti : ∀ (r : List Int), Shut r I J → ∀ w, w < J + 1 - I → (gat 0 r ((I + w : Nat) : Int)).toNat = I + (gat 0 (innL r I J) (w : Int)).toNat := fun r hr w hw => by
    have := hr ((I + w : Nat) : Int) (by omega) (by omega)
    rw [inn_get hIJ hw]
    omega
  have to : ∀ (r : List Int), J < r.length → Shut r I J → ArcS r → ∀ w, w < r.length - (J + 1 - I) → (gat 0 r ((up I J w : Nat) : Int)).toNat = up I J (gat 0 (outL r I J) (w : Int)).toNat := fun r hJ hr ha w hw => by
    have hlt : up I J w < r.length := by unfold up; split <;> omega
    have hno := out_of hr (sys_joint ha) hlt (by unfold up inN; split <;> simp <;> omega)
    have hj := sys_joint ha _ hlt
    rw [outL_get hIJ hJ hw]
    generalize gat 0 r ((up I J w : Nat) : Int) = v at *
    unfold dn up
    split <;> split <;> omega
  have e1 : ((List.range (J + 1 - I)).filter fun z => leastB (innL p I J) (innL q I J) z).length = ((List.range' I (J + 1 - I)).filter fun i => leastB p q i).length := by
    rw [List.range'_eq_map_range, List.filter_map, List.length_map]
    congr 1
    refine List.filter_congr fun z hz => ?_
    have hz := List.mem_range.1 hz
    exact (least_map (f := fun w => I + w) h hi (fun w hw => by omega) (fun a b => by omega) (fun w hw => ti p hs w (by omega)) (fun w hw => ti q ht w (by omega)) (z := z) (by omega)).symm
  have e2 : ((List.range (p.length - (J + 1 - I))).filter fun z => leastB (outL p I J) (outL q I J) z).length = ((List.range I ++ List.range' (J + 1) (p.length - (J + 1))).filter fun i => leastB p q i).length := by
    have em : List.range I ++ List.range' (J + 1) (p.length - (J + 1)) = (List.range (p.length - (J + 1 - I))).map (up I J) := by
      refine List.ext_getElem? fun i => ?_
      by_cases c : i < I
      · rw [List.getElem?_append_left (by simpa using c)]
        simp [up, c, show i < p.length - (J + 1 - I) by omega]
      · rw [List.getElem?_append_right (by simp; omega)]
        by_cases c2 : i < p.length - (J + 1 - I)
        · simp [up, c, c2, show i - I < p.length - (J + 1) by omega]
          omega
        · rw [List.getElem?_eq_none (by simp; omega), List.getElem?_eq_none (by simp; omega)]
    rw [em, List.filter_map, List.length_map]
    congr 1
    refine List.filter_congr fun z hz => ?_
    have hz := List.mem_range.1 hz
    exact (least_map (f := up I J) h ho (fun w hw => by unfold up; split <;> omega) (fun a b => by unfold up; split <;> split <;> omega) (fun w hw => to p hJ hs h.sp w (by omega)) (fun w hw => to q (by omega) ht h.sq w (by omega)) (z := z) (by omega)).symm
  unfold compN
  rw [i1, o1, e1, e2, List.filter_append, List.length_append]
  have e3 : List.range p.length = List.range I ++ (List.range' I (J + 1 - I) ++ List.range' (J + 1) (p.length - (J + 1))) := by
    refine List.ext_getElem? fun i => ?_
    by_cases c : i < I
    · rw [List.getElem?_append_left (by simpa using c)]
      simp [c, show i < p.length by omega]
    · rw [List.getElem?_append_right (by simp; omega)]
      by_cases c2 : i < J + 1
      · rw [List.getElem?_append_left (by simp; omega)]
        simp [show i < p.length by omega, show i - I < J + 1 - I by omega]
        omega
      · rw [List.getElem?_append_right (by simp; omega)]
        by_cases c3 : i < p.length
        · simp [c3, show i - I - (J + 1 - I) < p.length - (J + 1) by omega]
          omega
        · rw [List.getElem?_eq_none (by simp; omega), List.getElem?_eq_none (by simp; omega)]
  rw [e3, List.filter_append, List.filter_append, List.length_append, List.length_append]
  omega
end
end Go.Proofs.Ytbckijeffiofdaa.AL
